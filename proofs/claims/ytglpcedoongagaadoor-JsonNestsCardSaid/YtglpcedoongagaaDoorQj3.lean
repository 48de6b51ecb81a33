/-
  Part 3 of the proof: no statement of its own. No condition but those in each theorem.
-/
import Derived.Test.YtglpcedoongagaaDoorQj2
import Derived.Lib.ParseIntB
import Derived.Test.YtglpcedoongagaaDoorProg
import Derived.KernelRfl
import GoSem.PinnedTables
import Derived.Lib.ItoaNum
import Derived.Below
import Derived.Shelf.LaysC
import Derived.Laws.Externs
import Derived.Lib.Bytealg
import Derived.Shelf.Strconv.ParseIntPublic10
import Derived.Shelf.Strconv.Itoa0
import Derived.Shelf.Strconv.Itoa1
import Derived.Shelf.Strconv.Itoa2
import Derived.Lib.ItoaLen
import Derived.Lib.ItoaMem
set_option linter.unusedSimpArgs false
set_option linter.unusedVariables false
set_option linter.unusedSectionVars false
set_option maxRecDepth 8000
set_option maxHeartbeats 4000000
namespace Go.J
def hexd (x : Nat) : UInt8 := if x < 10 then u8 (48 + x) else u8 (87 + x)
def qb (c : UInt8) : B :=
 if c = 34 then [92, 34] else if c = 92 then [92, 92] else if c = 8 then [92, 98] else if c = 9 then [92, 116] else if c = 10 then [92, 110]
 else if c = 12 then [92, 102] else if c = 13 then [92, 114] else if c.toNat < 32 then [92, 117, 48, 48, hexd (c.toNat / 16), hexd (c.toNat % 16)] else [c]
def quote (s : B) : B := 34 :: (s.flatMap qb ++ [34])
def hexv (x : UInt8) : Option Nat :=
 if 48 <= x.toNat /\ x.toNat <= 57 then some (x.toNat - 48) else if 97 <= x.toNat /\ x.toNat <= 102 then some (x.toNat - 87) else if 65 <= x.toNat /\ x.toNat <= 70 then some (x.toNat - 55) else none
theorem hexv_hexd {x : Nat} (h : x < 16) : hexv (hexd x) = some x := by
 have : ∀ x : Fin 16, hexv (hexd x.val) = some x.val := by decide
 exact this ⟨x, h⟩
theorem hexv_lt {a : UInt8} {x : Nat} (h : hexv a = some x) : x < 16 := by
 unfold hexv at h
 (repeat' split at h) <;> first | (cases h; omega) | cases h
def hex4 : B -> Option (Nat × B)
 | a :: b :: c :: d :: r => match hexv a, hexv b, hexv c, hexv d with
   | some x, some y, some z, some t => some (4096 * x + 256 * y + 16 * z + t, r)
   | _, _, _, _ => none
 | _ => none
theorem hex4_spec {l r : B} {n : Nat} (h : hex4 l = some (n, r)) : n < 65536 /\ l.length = r.length + 4 := by
 unfold hex4 at h
 split at h
 . split at h
   . rename_i hx hy hz ht
     cases h
     have := hexv_lt hx; have := hexv_lt hy; have := hexv_lt hz; have := hexv_lt ht
     exact ⟨by omega, by simp⟩
   . cases h
 . cases h
def low (n : Nat) (r : B) : Option (Nat × B) := match hex4 r with
 | some (m, r3) => if 0xdc00 <= m /\ m < 0xe000 then some (0x10000 + (n - 0xd800) * 1024 + (m - 0xdc00), r3) else none
 | none => none
def pair (n : Nat) : B -> Option (Nat × B)
 | a :: b :: r => if a = 92 /\ b = 117 then low n r else none
 | _ => none
instance (c : Nat) : Decidable (okC c) := by unfold okC; infer_instance
def uni (r : B) : Option (Nat × B) := match hex4 r with
 | some (n, r') => if 0xd800 <= n /\ n < 0xdc00 then pair n r' else if okC n then some (n, r') else none
 | none => none
def esc : B -> Option (Nat × B)
 | [] => none
 | c :: r =>
   if c = 34 ∨ c = 92 ∨ c = 47 then some (c.toNat, r) else if c = 98 then some (8, r) else if c = 102 then some (12, r) else if c = 110 then some (10, r)
   else if c = 114 then some (13, r) else if c = 116 then some (9, r) else if c = 117 then uni r else none
theorem uni_spec {l r : B} {c : Nat} (h : uni l = some (c, r)) : okC c /\ ((c < 65536 /\ l.length = r.length + 4) ∨ (65536 <= c /\ l.length = r.length + 10)) := by
 unfold uni at h
 split at h
 . rename_i n r' he
   obtain ⟨h1, h2⟩ := hex4_spec he
   split at h
   . rename_i hn
     unfold pair at h
     split at h
     . split at h
       . unfold low at h
         split at h
         . rename_i m r3 hm
           obtain ⟨k1, k2⟩ := hex4_spec hm
           split at h
           . simp only [Option.some.injEq, Prod.mk.injEq] at h
             obtain ⟨rfl, rfl⟩ := h
             simp only [List.length_cons] at h2
             exact ⟨⟨by omega, by omega⟩, .inr ⟨by omega, by omega⟩⟩
           . cases h
         . cases h
       . cases h
     . cases h
   . split at h
     . rename_i ok
       cases h
       exact ⟨ok, .inl ⟨h1, h2⟩⟩
     . cases h
 . cases h
theorem esc_spec {l r : B} {c : Nat} (h : esc l = some (c, r)) : okC c /\ r.length < l.length := by
 cases l with
 | nil => cases h
 | cons a t =>
   rw [esc] at h
   (repeat' split at h) <;> first
    | (obtain ⟨h1, h2⟩ := uni_spec h; exact ⟨h1, by simp only [List.length_cons]; omega⟩)
    | (simp only [Option.some.injEq, Prod.mk.injEq] at h; obtain ⟨rfl, rfl⟩ := h; have := a.toNat_lt; exact ⟨⟨by omega, .inl (by omega)⟩, by simp⟩)
    | cases h
def txt : Nat -> B -> B -> Option (B × B)
 | 0, _, _ => none
 | f + 1, l, out =>
   if l.head? = some 34 then some (out, l.tail)
   else if l.head? = some 92 then (match esc l.tail with
    | some (c, r) => txt f r (out ++ enc c)
    | none => none)
   else if (dec l).2 = 0 ∨ (dec l).1 < 32 then none else txt f (l.drop (dec l).2) (out ++ l.take (dec l).2)
theorem dec_nil : dec [] = (0, 0) := rfl
theorem txt_fuel : ∀ (f g : Nat) (l out : B), l.length < f -> l.length < g -> txt f l out = txt g l out
 | 0, _, _, _, h, _ => by omega
 | _ + 1, 0, _, _, _, h => by omega
 | f + 1, g + 1, l, out, h1, h2 => by
   unfold txt
   split
   . rfl
   split
   . split
     . rename_i c r he
       have := (esc_spec he).2
       have hl : l.tail.length <= l.length := by rw [List.length_tail]; omega
       exact txt_fuel f g r _ (by omega) (by omega)
     . rfl
   split
   . rfl
   . rename_i hn
     have h0 : 0 < l.length := by
      cases l with
      | nil => simp [dec_nil] at hn
      | cons a r => simp
     have hd : (l.drop (dec l).2).length < l.length := by rw [List.length_drop]; omega
     exact txt_fuel f g _ _ (by omega) (by omega)
def txtF (l out : B) : Option (B × B) := txt (l.length + 1) l out
theorem txtF_eq (l out : B) : txtF l out = if l.head? = some 34 then some (out, l.tail)
 else if l.head? = some 92 then (match esc l.tail with
  | some (c, r) => txtF r (out ++ enc c)
  | none => none)
 else if (dec l).2 = 0 ∨ (dec l).1 < 32 then none else txtF (l.drop (dec l).2) (out ++ l.take (dec l).2) := by
 unfold txtF
 rw [txt]
 split
 . rfl
 split
 . split
   . rename_i c r he
     have := (esc_spec he).2
     have hl : l.tail.length <= l.length := by rw [List.length_tail]; omega
     exact txt_fuel _ _ r _ (by omega) (by omega)
   . rfl
 split
 . rfl
 . rename_i hn
   have h0 : 0 < l.length := by
    cases l with
    | nil => simp [dec_nil] at hn
    | cons a r => simp
   exact txt_fuel _ _ _ _ (by rw [List.length_drop]; omega) (by omega)
inductive Valid : B -> Prop
 | nil : Valid []
 | cons {c : Nat} {r : B} (h : okC c) (hr : Valid r) : Valid (enc c ++ r)
theorem Valid.app {a b : B} (h : Valid a) (hb : Valid b) : Valid (a ++ b) := by
 induction h with
 | nil => exact hb
 | cons h _ ih => rw [List.append_assoc]; exact .cons h ih
theorem Valid.one {c : Nat} (h : okC c) : Valid (enc c) := by have := Valid.cons h .nil; rwa [List.append_nil] at this
theorem take_dec {l : B} {c n : Nat} (h : dec l = (c, n)) (hn : 0 < n) : l.take n = enc c /\ l = enc c ++ l.drop n := by
 obtain ⟨_, rfl, r, e⟩ := dec_spec h hn
 subst e
 rw [List.take_left, List.drop_left]
 exact ⟨rfl, rfl⟩
theorem txtF_valid : ∀ (k : Nat) (l out t r : B), l.length <= k -> txtF l out = some (t, r) -> Valid out -> Valid t
 | k, l, out, t, r, hk, h, hv => by
   rw [txtF_eq] at h
   split at h
   . cases h; exact hv
   split at h
   . split at h
     . rename_i c r' he
       obtain ⟨h1, h2⟩ := esc_spec he
       have hl : l.tail.length <= l.length := by rw [List.length_tail]; omega
       cases k with
       | zero => omega
       | succ k => exact txtF_valid k r' _ t r (by omega) h (hv.app (.one h1))
     . cases h
   split at h
   . cases h
   . rename_i hn
     obtain ⟨c, n⟩ : Nat × Nat := dec l
     have h0 : 0 < l.length := by
      cases l with
      | nil => simp [dec_nil] at hn
      | cons a r => simp
     have hd := take_dec (l := l) (c := (dec l).1) (n := (dec l).2) rfl (by omega)
     have ho := (dec_spec (l := l) (c := (dec l).1) (n := (dec l).2) rfl (by omega)).1
     cases k with
     | zero => omega
     | succ k => exact txtF_valid k _ _ t r (by rw [List.length_drop]; omega) h (by rw [hd.1]; exact hv.app (.one ho))
theorem qb_len (c : UInt8) : (qb c).length <= 6 /\ (32 <= c.toNat -> (qb c).length <= 2) /\ (32 <= c.toNat -> c ≠ 34 -> c ≠ 92 -> qb c = [c]) := by
 unfold qb
 (repeat' split) <;> refine ⟨by simp, fun h => by first | omega | simp, fun h h1 h2 => ?_⟩ <;> first | rfl | (exfalso; first | omega | simp_all)
theorem enc_hi {c : Nat} (h : 0x80 <= c) : ∀ b ∈ enc c, 0x80 <= b.toNat := by
 intro b hb
 by_cases ok : okC c
 . rcases enc_cases ok with ⟨h1, _⟩ | ⟨h1, h2, _⟩ | ⟨h1, h2, _⟩ | ⟨h1, _⟩
   . omega
   . rw [enc_len2 h1 h2] at hb
     simp only [List.mem_cons, List.not_mem_nil, or_false] at hb
     rcases hb with rfl | rfl <;> rw [u8_toNat (by omega)] <;> omega
   . rw [enc_len3 h1 h2 ok.2] at hb
     simp only [List.mem_cons, List.not_mem_nil, or_false] at hb
     rcases hb with rfl | rfl | rfl <;> rw [u8_toNat (by omega)] <;> omega
   . have := ok.1
     rw [enc_len4 h1 ok.1] at hb
     simp only [List.mem_cons, List.not_mem_nil, or_false] at hb
     rcases hb with rfl | rfl | rfl | rfl <;> rw [u8_toNat (by omega)] <;> omega
 . rw [enc_nil ok] at hb; cases hb
theorem plain_qb {l : B} (h : ∀ b ∈ l, qb b = [b]) : l.flatMap qb = l := by
 induction l with
 | nil => rfl
 | cons a r ih => rw [List.flatMap_cons, h a (by simp), ih fun b hb => h b (by simp [hb])]; rfl
theorem enc_qb {c : Nat} (h : 0x80 <= c) : (enc c).flatMap qb = enc c :=
 plain_qb fun b hb => by
  have := enc_hi h b hb
  refine (qb_len b).2.2 (by omega) (fun e => ?_) fun e => ?_ <;> subst e <;> exact absurd this (by decide)
theorem txtF_len : ∀ (k : Nat) (l out t r : B), l.length <= k -> txtF l out = some (t, r) -> (t.flatMap qb).length + r.length + 1 <= (out.flatMap qb).length + l.length
 | k, l, out, t, r, hk, h => by
   rw [txtF_eq] at h
   split at h
   . rename_i he
     cases h
     cases l with
     | nil => cases he
     | cons a r => simp; omega
   split at h
   . rename_i he92
     cases l with
     | nil => cases he92
     | cons a l' =>
     rw [List.tail_cons] at h
     simp only [List.length_cons] at hk
     split at h
     . rename_i c r' he
       obtain ⟨h1, h2⟩ := esc_spec he
       have hq : ((enc c).flatMap qb).length + r'.length <= (a :: l').length := by
        cases l' with
        | nil => cases he
        | cons b t' =>
          rw [esc] at he
          have two : ∀ x : UInt8, c = x.toNat -> ((enc c).flatMap qb).length <= 6 /\ ((x = 34 ∨ x = 92 ∨ x = 47 ∨ x = 8 ∨ x = 12 ∨ x = 10 ∨ x = 13 ∨ x = 9) -> ((enc c).flatMap qb).length <= 2) := by
           intro x e
           by_cases hx : c < 0x80
           . rw [enc_len1 hx, List.flatMap_cons, List.flatMap_nil, List.append_nil, u8_eq e]
             refine ⟨(qb_len x).1, ?_⟩
             rintro (rfl | rfl | rfl | rfl | rfl | rfl | rfl | rfl) <;> decide
           . have hx2 := x.toNat_lt
             rw [enc_qb (by omega), enc_len2 (by omega) (by omega)]
             refine ⟨by simp, fun _ => by simp⟩
          (repeat' split at he) <;> first
           | (rename_i hc; cases he; have := (two b rfl).2 (by rcases hc with h | h | h <;> simp [h]); simp only [List.length_cons] at this ⊢; omega)
           | (cases he; have := (two 8 rfl).2 (by simp); simp only [List.length_cons] at this ⊢; omega)
           | (cases he; have := (two 12 rfl).2 (by simp); simp only [List.length_cons] at this ⊢; omega)
           | (cases he; have := (two 10 rfl).2 (by simp); simp only [List.length_cons] at this ⊢; omega)
           | (cases he; have := (two 13 rfl).2 (by simp); simp only [List.length_cons] at this ⊢; omega)
           | (cases he; have := (two 9 rfl).2 (by simp); simp only [List.length_cons] at this ⊢; omega)
           | (obtain ⟨k1, k2⟩ := uni_spec he
              have h6 : ((enc c).flatMap qb).length <= 6 := by
               by_cases hx : c < 256
               . exact (two (u8 c) (u8_toNat hx).symm).1
               . rw [enc_qb (by omega)]
                 rcases enc_cases k1 with ⟨_, e⟩ | ⟨_, _, e⟩ | ⟨_, _, e⟩ | ⟨_, e⟩ <;> rw [e] <;> omega
              simp only [List.length_cons] at k2 ⊢
              omega)
           | cases he
       have hl : r'.length < (a :: l').length := by simp only [List.length_cons]; omega
       cases k with
       | zero => omega
       | succ k =>
         have := txtF_len k r' _ t r (by omega) h
         rw [List.flatMap_append, List.length_append] at this
         omega
     . cases h
   split at h
   . cases h
   . rename_i h34 h92 hn
     have h0 : 0 < l.length := by
      cases l with
      | nil => simp [dec_nil] at hn
      | cons a r => simp
     obtain ⟨ho, hlen, -⟩ := dec_spec (l := l) (c := (dec l).1) (n := (dec l).2) rfl (by omega)
     obtain ⟨hd1, hd2⟩ := take_dec (l := l) (c := (dec l).1) (n := (dec l).2) rfl (by omega)
     have hq : ((l.take (dec l).2).flatMap qb).length = (dec l).2 := by
      rw [hd1]
      by_cases hx : (dec l).1 < 0x80
      . rw [hlen, enc_len1 hx, List.flatMap_cons, List.flatMap_nil, List.append_nil]
        have e : l.head? = some (u8 (dec l).1) := by have := congrArg List.head? hd2; rw [enc_len1 hx] at this; exact this
        rw [(qb_len _).2.2 (by rw [u8_toNat (by omega)]; omega) (fun e' => h34 (by rw [e, e'])) (fun e' => h92 (by rw [e, e']))]
      . rw [enc_qb (by omega), hlen]
     cases k with
     | zero => omega
     | succ k =>
       have := txtF_len k _ _ t r (by rw [List.length_drop]; omega) h
       have hle : (dec l).2 <= l.length := by
        have := congrArg List.length hd1
        rw [List.length_take, <- hlen] at this
        omega
       rw [List.flatMap_append, List.length_append, hq, List.length_drop] at this
       omega
theorem txtF_quote {s : B} (hv : Valid s) : ∀ (out r : B), txtF (s.flatMap qb ++ 34 :: r) out = some (out ++ s, r) := by
 induction hv with
 | nil => intro out r; rw [txtF_eq]; simp
 | @cons c t ok hr ih =>
   intro out r
   rw [List.flatMap_append, List.append_assoc]
   by_cases hx : c < 0x80
   . rw [enc_len1 hx, List.flatMap_cons, List.flatMap_nil, List.append_nil]
     have hb : ∀ x : UInt8, x.toNat < 0x80 -> ∀ l out', txtF (qb x ++ l) out' = txtF l (out' ++ [x]) := by
      intro x hx l out'
      have e1 : enc x.toNat = [x] := by rw [enc_len1 hx, u8_eq rfl]
      by_cases hp : 32 <= x.toNat /\ x ≠ 34 /\ x ≠ 92
      . rw [(qb_len x).2.2 hp.1 hp.2.1 hp.2.2, txtF_eq]
        have hd : dec ([x] ++ l) = (x.toNat, 1) := by
         have := dec_enc (c := x.toNat) ⟨by omega, by omega⟩ l
         rwa [e1] at this
        rw [hd]
        have n1 : ¬ (([x] ++ l).head? = some 34) := fun e => hp.2.1 (Option.some.inj e)
        have n2 : ¬ (([x] ++ l).head? = some 92) := fun e => hp.2.2 (Option.some.inj e)
        rw [if_neg n1, if_neg n2, if_neg (by simp only; omega)]; rfl
      . have step : ∀ (q : B) (c : Nat), qb x = 92 :: q -> esc (q ++ l) = some (c, l) -> enc c = [x] -> txtF (qb x ++ l) out' = txtF l (out' ++ [x]) := by
         intro q c e1 e2 e3
         rw [e1, txtF_eq, List.cons_append]
         rw [if_neg (by simp), if_pos (by simp), List.tail_cons, e2]
         dsimp only
         rw [e3]
        have h8 : x = 34 ∨ x = 92 ∨ x = 8 ∨ x = 9 ∨ x = 10 ∨ x = 12 ∨ x = 13 ∨ (x.toNat < 32 /\ ¬ (x = 8 ∨ x = 9 ∨ x = 10 ∨ x = 12 ∨ x = 13)) := by
         by_cases a : x.toNat < 32
         . by_cases b : (x = 8 ∨ x = 9 ∨ x = 10 ∨ x = 12 ∨ x = 13)
           . rcases b with b | b | b | b | b <;> simp [b]
           . exact .inr (.inr (.inr (.inr (.inr (.inr (.inr ⟨a, b⟩))))))
         . have : x = 34 ∨ x = 92 := by
            by_cases h1 : x = 34
            . exact .inl h1
            . by_cases h2 : x = 92
              . exact .inr h2
              . exact absurd ⟨by omega, h1, h2⟩ hp
           rcases this with h | h <;> simp [h]
        rcases h8 with rfl | rfl | rfl | rfl | rfl | rfl | rfl | ⟨a, b⟩
        . exact step [34] 34 rfl rfl rfl
        . exact step [92] 92 rfl rfl rfl
        . exact step [98] 8 rfl rfl rfl
        . exact step [116] 9 rfl rfl rfl
        . exact step [110] 10 rfl rfl rfl
        . exact step [102] 12 rfl rfl rfl
        . exact step [114] 13 rfl rfl rfl
        . simp only [not_or] at b
          refine step [117, 48, 48, hexd (x.toNat / 16), hexd (x.toNat % 16)] x.toNat ?_ ?_ e1
          . unfold qb
            rw [if_neg (by rintro rfl; exact absurd a (by decide)), if_neg (by rintro rfl; exact absurd a (by decide)), if_neg b.1, if_neg b.2.1, if_neg b.2.2.1, if_neg b.2.2.2.1, if_neg b.2.2.2.2, if_pos a]
          . show esc (117 :: (48 :: 48 :: hexd (x.toNat / 16) :: hexd (x.toNat % 16) :: l)) = _
            have hh : hex4 (48 :: 48 :: hexd (x.toNat / 16) :: hexd (x.toNat % 16) :: l) = some (x.toNat, l) := by
             rw [hex4, hexv_hexd (by omega), hexv_hexd (by omega), show hexv 48 = some 0 from rfl]
             simp only [Option.some.injEq, Prod.mk.injEq, and_true]
             omega
            have hu : uni (48 :: 48 :: hexd (x.toNat / 16) :: hexd (x.toNat % 16) :: l) = some (x.toNat, l) := by
             unfold uni
             rw [hh]
             dsimp only
             rw [if_neg (by omega), if_pos ⟨by omega, by omega⟩]
            rw [<- hu]; rfl
     rw [hb (u8 c) (by rw [u8_toNat (by omega)]; exact hx), ih, List.append_assoc]
   . have e := enc_qb (c := c) (by omega)
     have hne := enc_ok.2 ok
     rw [e, txtF_eq, dec_enc ok]
     have hd : ∀ b : UInt8, (enc c ++ (List.flatMap qb t ++ 34 :: r)).head? = some b -> 0x80 <= b.toNat := by
      intro b hb
      cases he : enc c with
      | nil => exact absurd he hne
      | cons a q =>
        rw [he] at hb
        cases hb
        exact enc_hi (c := c) (by omega) b (by rw [he]; simp)
     rw [if_neg fun h => absurd (hd _ h) (by decide), if_neg fun h => absurd (hd _ h) (by decide), if_neg (by
      have := List.length_pos_iff.2 hne
      simp only; omega)]
     dsimp only
     rw [List.drop_left, List.take_left, ih, List.append_assoc]
end Go.J
namespace Go.J
theorem head_app {l : B} (h : l ≠ []) (r : B) : (l ++ r).head? = l.head? := by
 cases l with
 | nil => exact absurd rfl h
 | cons a t => rfl
def dn (n : Nat) : B := if n < 10 then [u8 (48 + n)] else dn (n / 10) ++ [u8 (48 + n % 10)]
termination_by n
def numS (z : Int) : B := if z < 0 then 45 :: dn (-z).toNat else dn z.toNat
def isD (x : UInt8) : Bool := decide (48 <= x.toNat /\ x.toNat <= 57)
def dspan : B -> Nat
 | [] => 0
 | x :: r => if isD x then dspan r + 1 else 0
def dlen (l : B) : Nat := if l.head? = some 48 then 1 else dspan l
def dval (l : B) : Nat := l.foldl (fun a x => 10 * a + (x.toNat - 48)) 0
def numD (neg : Bool) (d : B) : Option (Int × B) :=
 if dlen d = 0 then none
 else if neg then (if dval (d.take (dlen d)) <= 2 ^ 63 then some (-(dval (d.take (dlen d)) : Int), d.drop (dlen d)) else none)
 else (if dval (d.take (dlen d)) < 2 ^ 63 then some ((dval (d.take (dlen d)) : Int), d.drop (dlen d)) else none)
def num (l : B) : Option (Int × B) := if l.head? = some 45 then numD true l.tail else numD false l
theorem dspan_le (l : B) : dspan l <= l.length := by
 induction l with
 | nil => simp [dspan]
 | cons x r ih => unfold dspan; split <;> simp <;> omega
theorem dlen_le (l : B) : dlen l <= l.length := by
 unfold dlen
 split
 . rename_i h
   cases l with
   | nil => cases h
   | cons x r => simp
 . exact dspan_le l
theorem isD_u8 {n : Nat} (h : n < 10) : isD (u8 (48 + n)) = true := by unfold isD; rw [u8_toNat (by omega)]; exact decide_eq_true (by omega)
theorem dn_digits (n : Nat) : ∀ x ∈ dn n, isD x = true := by
 induction n using Nat.strongRecOn with
 | ind n ih =>
   intro x hx
   unfold dn at hx
   split at hx
   . rename_i h
     rw [List.mem_singleton.1 hx]; exact isD_u8 h
   . rename_i h
     rcases List.mem_append.1 hx with hx | hx
     . exact ih _ (by omega) x hx
     . rw [List.mem_singleton.1 hx]; exact isD_u8 (by omega)
theorem dn_ne (n : Nat) : dn n ≠ [] := by unfold dn; split <;> simp
theorem dval_snoc (l : B) (x : UInt8) : dval (l ++ [x]) = 10 * dval l + (x.toNat - 48) := by simp [dval, List.foldl_append]
theorem dval_dn (n : Nat) : dval (dn n) = n := by
 induction n using Nat.strongRecOn with
 | ind n ih =>
   unfold dn
   split
   . rename_i h; simp only [dval, List.foldl_cons, List.foldl_nil]; rw [u8_toNat (by omega)]; omega
   . rename_i h; rw [dval_snoc, ih _ (by omega), u8_toNat (by omega)]; omega
theorem dn_head (n : Nat) : (dn n).head? = some 48 -> n = 0 := by
 induction n using Nat.strongRecOn with
 | ind n ih =>
   intro h
   unfold dn at h
   split at h
   . rename_i hn
     have := congrArg UInt8.toNat (Option.some.inj h)
     rw [u8_toNat (by omega)] at this
     have : 48 + n = 48 := this
     omega
   . rename_i hn
     rw [head_app (dn_ne _)] at h
     have := ih _ (by omega) h
     omega
theorem dspan_all {l : B} (h : ∀ x ∈ l, isD x = true) {r : B} (hr : ∀ x, r.head? = some x -> isD x = false) : dspan (l ++ r) = l.length := by
 induction l with
 | nil =>
   cases r with
   | nil => rfl
   | cons x r => rw [List.nil_append, dspan, hr x rfl]; rfl
 | cons a t ih => rw [List.cons_append, dspan, h a (by simp), if_pos rfl, ih fun x hx => h x (by simp [hx])]; rfl
theorem dlen_dn (n : Nat) {r : B} (hr : ∀ x, r.head? = some x -> isD x = false) : dlen (dn n ++ r) = (dn n).length := by
 unfold dlen
 rw [head_app (dn_ne _)]
 split
 . rename_i h
   have := dn_head n h
   subst this
   rw [dn, if_pos (by omega)]; rfl
 . exact dspan_all (dn_digits n) hr
theorem dn_head_ne (n : Nat) (r : B) : (dn n ++ r).head? ≠ some 45 := by
 rw [head_app (dn_ne _)]
 intro h
 have : isD 45 = true := dn_digits n 45 (List.mem_of_head? h)
 exact absurd this (by decide)
theorem num_numS {z : Int} (h1 : -2 ^ 63 <= z) (h2 : z < 2 ^ 63) {r : B} (hr : ∀ x, r.head? = some x -> isD x = false) : num (numS z ++ r) = some (z, r) := by
 have key : ∀ n : Nat, dlen (dn n ++ r) ≠ 0 /\ dval ((dn n ++ r).take (dlen (dn n ++ r))) = n /\ (dn n ++ r).drop (dlen (dn n ++ r)) = r := fun n => by
  rw [dlen_dn n hr, List.take_left, List.drop_left, dval_dn]
  exact ⟨fun e => dn_ne n (List.length_eq_zero_iff.1 e), rfl, rfl⟩
 unfold numS num
 split
 . rename_i hz
   obtain ⟨k1, k2, k3⟩ := key (-z).toNat
   rw [List.cons_append, List.head?_cons, if_pos rfl, List.tail_cons, numD, if_neg k1, if_pos rfl, k2, k3, if_pos (by omega)]
   congr 2; omega
 . rename_i hz
   obtain ⟨k1, k2, k3⟩ := key z.toNat
   rw [if_neg (dn_head_ne _ _), numD, if_neg k1, if_neg (by simp), k2, k3, if_pos (by omega)]
   congr 2; omega
theorem dn_len {n k : Nat} (h : n < 10 ^ k) (hk : 1 <= k) : (dn n).length <= k := by
 induction k generalizing n with
 | zero => omega
 | succ k ih =>
   unfold dn
   split
   . simp
   . rename_i hn
     rw [Nat.pow_succ] at h
     cases k with
     | zero => omega
     | succ k =>
       have := ih (n := n / 10) (by omega) (by omega)
       rw [List.length_append, List.length_singleton]; omega
theorem dval_lt {l : B} (h : ∀ x ∈ l, isD x = true) : dval l < 10 ^ l.length := by
 have : ∀ (l : B) (a k : Nat), (∀ x ∈ l, isD x = true) -> a < 10 ^ k -> l.foldl (fun a x => 10 * a + (x.toNat - 48)) a < 10 ^ (k + l.length) := by
  intro l
  induction l with
  | nil => intro a k _ h; simpa using h
  | cons x r ih =>
    intro a k hl ha
    have hx : 48 <= x.toNat /\ x.toNat <= 57 := of_decide_eq_true (hl x (by simp))
    have := ih (10 * a + (x.toNat - 48)) (k + 1) (fun y hy => hl y (by simp [hy])) (by rw [Nat.pow_succ]; omega)
    rw [List.foldl_cons, List.length_cons, show k + (r.length + 1) = k + 1 + r.length by omega]; exact this
 have := this l 0 0 h (by simp)
 rwa [Nat.zero_add] at this
theorem take_dspan (l : B) : ∀ n, n <= dspan l -> ∀ x ∈ l.take n, isD x = true := by
 induction l with
 | nil => intro n _ x hx; simp at hx
 | cons a r ih =>
   intro n hn x hx
   cases n with
   | zero => simp at hx
   | succ n =>
     unfold dspan at hn
     split at hn
     . rename_i ha
       rw [List.take_succ_cons] at hx
       rcases List.mem_cons.1 hx with rfl | hx
       . exact ha
       . exact ih n (by omega) x hx
     . omega
theorem take_dlen (l : B) : ∀ x ∈ l.take (dlen l), isD x = true := by
 unfold dlen
 split
 . rename_i h
   cases l with
   | nil => cases h
   | cons a r => cases h; intro x hx; simp at hx; subst hx; decide
 . exact take_dspan l _ (Nat.le_refl _)
theorem num_spec {l r : B} {z : Int} (h : num l = some (z, r)) : (-2 ^ 63 <= z /\ z < 2 ^ 63) /\ (numS z).length + r.length <= l.length := by
 have key : ∀ d : B, dlen d ≠ 0 -> (dn (dval (d.take (dlen d)))).length + (d.drop (dlen d)).length <= d.length := fun d hd => by
  have h1 := dval_lt (take_dlen d)
  have h2 := dlen_le d
  rw [List.length_take, Nat.min_eq_left h2] at h1
  have := dn_len h1 (by omega)
  rw [List.length_drop]; omega
 unfold num at h
 split at h
 . rename_i h45
   have hl : l.tail.length + 1 = l.length := by
    cases l with
    | nil => cases h45
    | cons a r => simp
   unfold numD at h
   split at h
   . cases h
   rename_i hd
   have hk := key _ hd
   rw [if_pos rfl] at h
   split at h
   . rename_i hv
     simp only [Option.some.injEq, Prod.mk.injEq] at h
     obtain ⟨rfl, rfl⟩ := h
     refine ⟨⟨by omega, by omega⟩, ?_⟩
     unfold numS
     split
     . rw [Int.neg_neg, Int.toNat_natCast, List.length_cons]; omega
     . rename_i hz
       have hz0 : dval (l.tail.take (dlen l.tail)) = 0 := by omega
       rw [hz0] at hk ⊢
       simp only [Int.natCast_zero, Int.neg_zero, Int.toNat_zero]
       omega
   . cases h
 . unfold numD at h
   split at h
   . cases h
   rename_i hd
   have hk := key _ hd
   rw [if_neg (by simp)] at h
   split at h
   . rename_i hv
     simp only [Option.some.injEq, Prod.mk.injEq] at h
     obtain ⟨rfl, rfl⟩ := h
     refine ⟨⟨by omega, by omega⟩, ?_⟩
     unfold numS
     rw [if_neg (by omega), Int.toNat_natCast]; exact hk
   . cases h
end Go.J
namespace Go.J
inductive JV where
 | mk (kind : UInt8) (num : Int) (text : B) (kids : List JV) (names : List B)
namespace JV
def kind : JV -> UInt8 | mk a _ _ _ _ => a
def num : JV -> Int | mk _ a _ _ _ => a
def text : JV -> B | mk _ _ a _ _ => a
def kids : JV -> List JV | mk _ _ _ a _ => a
def names : JV -> List B | mk _ _ _ _ a => a
end JV
def vNull : JV := .mk 0 0 [] [] []
def vBool (z : Int) : JV := .mk 1 z [] [] []
def vNum (z : Int) : JV := .mk 2 z [] [] []
def vText (s : B) : JV := .mk 3 0 s [] []
def vList (l : List JV) : JV := .mk 4 0 [] l []
def vObj (ns : List B) (l : List JV) : JV := .mk 5 0 [] l ns
def bare (v : JV) : Prop := (v.num = 0 ∨ v.kind = 1 ∨ v.kind = 2) /\ (v.text = [] ∨ v.kind = 3) /\ (v.kids = [] ∨ v.kind = 4 ∨ v.kind = 5) /\ v.names.length = (if v.kind = 5 then v.kids.length else 0)
def mayL (v : JV) : Prop := bare v /\ (v.kind = 0 ∨ v.kind = 2 ∨ (v.kind = 1 /\ (v.num = 0 ∨ v.num = 1)) ∨ (v.kind = 3 /\ Valid v.text))
def namesOk (ns : List B) : Prop := (∀ s ∈ ns, Valid s) /\ ns.Nodup
def may : Nat -> JV -> Prop
 | 0, v => mayL v
 | n + 1, v => mayL v ∨ ((v.kind = 4 ∨ v.kind = 5) /\ bare v /\ namesOk v.names /\ ∀ k ∈ v.kids, may n k)
def joinC : List B -> B
 | [] => []
 | [x] => x
 | x :: y :: r => x ++ 44 :: joinC (y :: r)
def prtL (v : JV) : B := if v.kind = 0 then [110, 117, 108, 108] else if v.kind = 1 then (if v.num = 1 then [116, 114, 117, 101] else [102, 97, 108, 115, 101]) else if v.kind = 2 then numS v.num else quote v.text
def ent (s k : B) : B := quote s ++ 58 :: k
def prt : Nat -> JV -> B
 | 0, v => prtL v
 | n + 1, v => if v.kind = 4 then 91 :: (joinC (v.kids.map (prt n)) ++ [93]) else if v.kind = 5 then 123 :: (joinC (List.zipWith ent v.names (v.kids.map (prt n))) ++ [125]) else prtL v
def isB (x : UInt8) : Bool := x = 32 || x = 9 || x = 10 || x = 13
def blk : B -> B
 | [] => []
 | x :: r => if isB x then blk r else x :: r
theorem blk_len (l : B) : (blk l).length <= l.length := by
 induction l with
 | nil => simp [blk]
 | cons x r ih => unfold blk; split <;> simp; omega
theorem blk_ne {x : UInt8} {r : B} (h : isB x = false) : blk (x :: r) = x :: r := by rw [blk, h]; rfl
theorem blk_app {w l : B} (h : ∀ x ∈ w, isB x = true) : blk (w ++ l) = blk l := by
 induction w with
 | nil => rfl
 | cons a w ih => rw [List.cons_append, blk, h a (by simp), if_pos rfl, ih fun x hx => h x (by simp [hx])]
abbrev R := Except Int (JV × B)
def lit (w : B) (v : JV) (l : B) : R := if w.isPrefixOf l then .ok (v, l.drop w.length) else .error 5
def lstL (f : B -> R) : Nat -> B -> List JV -> R
 | 0, _, _ => .error 5
 | k + 1, l, acc => match f l with
   | .error e => .error e
   | .ok (v, r) => if (blk r).head? = some 93 then .ok (vList (acc ++ [v]), (blk r).tail) else if (blk r).head? = some 44 then lstL f k (blk r).tail (acc ++ [v]) else .error 5
def lst (f : B -> R) (t : B) : R := if (blk t).head? = some 93 then .ok (vList [], (blk t).tail) else lstL f ((blk t).length + 1) (blk t) []
open Classical in
noncomputable def nam (ns : List B) (l : B) : Option (B × B) :=
 if (blk l).head? = some 34 then (match txtF (blk l).tail [] with
  | some (s, r) => if s ∈ ns then none else if (blk r).head? = some 58 then some (s, (blk r).tail) else none
  | none => none) else none
noncomputable def objL (f : B -> R) : Nat -> B -> List B -> List JV -> R
 | 0, _, _, _ => .error 5
 | k + 1, l, ns, acc => match nam ns l with
   | none => .error 5
   | some (s, r) => match f r with
     | .error e => .error e
     | .ok (v, r) => if (blk r).head? = some 125 then .ok (vObj (ns ++ [s]) (acc ++ [v]), (blk r).tail) else if (blk r).head? = some 44 then objL f k (blk r).tail (ns ++ [s]) (acc ++ [v]) else .error 5
noncomputable def obj (f : B -> R) (t : B) : R := if (blk t).head? = some 125 then .ok (vObj [] [], (blk t).tail) else objL f ((blk t).length + 1) (blk t) [] []
def valL (l : B) : R := match l with
 | [] => .error 5
 | c :: t =>
   if c = 110 then lit [110, 117, 108, 108] vNull (c :: t)
   else if c = 116 then lit [116, 114, 117, 101] (vBool 1) (c :: t)
   else if c = 102 then lit [102, 97, 108, 115, 101] (vBool 0) (c :: t)
   else if c = 34 then (match txtF t [] with
    | some (s, r) => .ok (vText s, r)
    | none => .error 5)
   else (match num (c :: t) with
    | some (z, r) => .ok (vNum z, r)
    | none => .error 5)
noncomputable def val : Nat -> B -> R
 | 0, l => if (blk l).head? = some 91 ∨ (blk l).head? = some 123 then .error 6 else valL (blk l)
 | n + 1, l => if (blk l).head? = some 91 then lst (val n) (blk l).tail else if (blk l).head? = some 123 then obj (val n) (blk l).tail else valL (blk l)
noncomputable def parse (b : B) : Except Int JV :=
 if 65536 < b.length then .error 6 else match val 8 b with
 | .error e => .error e
 | .ok (v, r) => if blk r = [] then .ok v else .error 5
def Good (f : B -> R) (n : Nat) : Prop := ∀ l v r, f l = .ok (v, r) -> may n v /\ (prt n v).length + r.length <= l.length /\ r.length < l.length
theorem tail_len {l : B} {x : UInt8} (h : l.head? = some x) : l.tail.length + 1 = l.length := by
 cases l with
 | nil => cases h
 | cons a r => simp
theorem lit_spec {w l r : B} {v u : JV} (h : lit w u l = .ok (v, r)) : v = u /\ w.length + r.length = l.length := by
 unfold lit at h
 split at h
 . rename_i hp
   cases h
   have := (List.isPrefixOf_iff_prefix.1 hp).length_le
   exact ⟨rfl, by rw [List.length_drop]; omega⟩
 . cases h
theorem joinC_len (a : B) (l : List B) : (joinC (l ++ [a])).length = (if l = [] then a.length else (joinC l).length + 1 + a.length) := by
 induction l with
 | nil => rfl
 | cons x r ih =>
   cases r with
   | nil => simp [joinC]; omega
   | cons y r =>
     simp only [List.cons_append, joinC, List.length_append, List.length_cons] at ih ⊢
     rw [ih, if_neg (by simp), if_neg (by simp)]; omega
theorem mayL_bare {v : JV} (h : mayL v) : v.kind ≠ 4 /\ v.kind ≠ 5 := by
 rcases h.2 with h | h | h | h
 . rw [h]; decide
 . rw [h]; decide
 . rw [h.1]; decide
 . rw [h.1]; decide
theorem prt_leaf {v : JV} (h : mayL v) (n : Nat) : prt n v = prtL v := by
 cases n with
 | zero => rfl
 | succ n => rw [prt, if_neg (mayL_bare h).1, if_neg (mayL_bare h).2]
theorem may_leaf {v : JV} (h : mayL v) (n : Nat) : may n v := by
 cases n with
 | zero => exact h
 | succ n => exact .inl h
theorem valL_good (n : Nat) : Good valL n := by
 intro l v r h
 unfold valL at h
 split at h
 . cases h
 . rename_i c t
   have leaf : ∀ {u : JV} {r : B}, mayL u -> (prtL u).length + r.length <= (c :: t).length -> r.length < (c :: t).length -> may n u /\ (prt n u).length + r.length <= (c :: t).length /\ r.length < (c :: t).length :=
    fun m h1 h2 => ⟨may_leaf m n, by rw [prt_leaf m]; exact h1, h2⟩
   split at h
   . obtain ⟨rfl, h2⟩ := lit_spec h
     exact leaf ⟨⟨.inl rfl, .inl rfl, .inl rfl, rfl⟩, .inl rfl⟩ (by rw [<- h2]; exact Nat.le_refl _) (by rw [<- h2]; simp)
   split at h
   . obtain ⟨rfl, h2⟩ := lit_spec h
     exact leaf ⟨⟨.inr (.inl rfl), .inl rfl, .inl rfl, rfl⟩, .inr (.inr (.inl ⟨rfl, .inr rfl⟩))⟩ (by rw [<- h2]; exact Nat.le_refl _) (by rw [<- h2]; simp)
   split at h
   . obtain ⟨rfl, h2⟩ := lit_spec h
     exact leaf ⟨⟨.inr (.inl rfl), .inl rfl, .inl rfl, rfl⟩, .inr (.inr (.inl ⟨rfl, .inl rfl⟩))⟩ (by rw [<- h2]; exact Nat.le_refl _) (by rw [<- h2]; simp)
   split at h
   . split at h
     . rename_i s r' he
       cases h
       have hv := txtF_valid _ _ _ _ _ (Nat.le_refl _) he .nil
       have hl := txtF_len _ _ _ _ _ (Nat.le_refl _) he
       simp only [List.flatMap_nil, List.length_nil, Nat.zero_add] at hl
       refine leaf ⟨⟨.inl rfl, .inr rfl, .inl rfl, rfl⟩, .inr (.inr (.inr ⟨rfl, hv⟩))⟩ ?_ ?_
       . show (quote s).length + _ <= _
         rw [quote]; simp only [List.length_cons, List.length_append, List.length_nil]; omega
       . simp only [List.length_cons]; omega
     . cases h
   . split at h
     . rename_i z r' he
       cases h
       obtain ⟨h1, h2⟩ := num_spec he
       have h3 : 0 < (numS z).length := by
        unfold numS
        split
        . simp
        . exact List.length_pos_iff.2 (dn_ne _)
       exact leaf ⟨⟨.inr (.inr rfl), .inl rfl, .inl rfl, rfl⟩, .inr (.inl rfl)⟩ h2 (by omega)
     . cases h
theorem lstL_good {f : B -> R} {n : Nat} (hf : Good f n) : ∀ (k : Nat) (l : B) (acc : List JV) (v : JV) (r : B), lstL f k l acc = .ok (v, r) -> (∀ x ∈ acc, may n x) ->
 ∃ ks, v = vList ks /\ (∀ x ∈ ks, may n x) /\ (joinC (ks.map (prt n))).length + 1 + r.length <= (if acc = [] then 0 else (joinC (acc.map (prt n))).length + 1) + l.length /\ r.length < l.length
 | 0, _, _, _, _, h, _ => by cases h
 | k + 1, l, acc, v, r, h, ha => by
   rw [lstL] at h
   split at h
   . cases h
   rename_i u r1 he
   obtain ⟨h1, h2, h3⟩ := hf _ _ _ he
   have hb := blk_len r1
   have ha' : ∀ x ∈ acc ++ [u], may n x := fun x hx => by
    rcases List.mem_append.1 hx with hx | hx
    . exact ha x hx
    . rw [List.mem_singleton.1 hx]; exact h1
   have hj := joinC_len (prt n u) (acc.map (prt n))
   have hne : (acc.map (prt n) = []) ↔ acc = [] := List.map_eq_nil_iff
   split at h
   . rename_i hh
     cases h
     have ht := tail_len hh
     refine ⟨_, rfl, ha', ?_, by omega⟩
     rw [List.map_append, List.map_cons, List.map_nil, hj]
     by_cases hc : acc = []
     . rw [if_pos (hne.2 hc), if_pos hc]; omega
     . rw [if_neg fun e => hc (hne.1 e), if_neg hc]; omega
   split at h
   . rename_i hh
     have ht := tail_len hh
     obtain ⟨ks, rfl, g1, g2, g3⟩ := lstL_good hf k _ _ _ _ h ha'
     refine ⟨ks, rfl, g1, ?_, by omega⟩
     rw [if_neg (by simp), List.map_append, List.map_cons, List.map_nil, hj] at g2
     by_cases hc : acc = []
     . rw [if_pos (hne.2 hc)] at g2; rw [if_pos hc]; omega
     . rw [if_neg fun e => hc (hne.1 e)] at g2; rw [if_neg hc]; omega
   . cases h
theorem lst_good {f : B -> R} {n : Nat} (hf : Good f n) {t r : B} {v : JV} (h : lst f t = .ok (v, r)) : may (n + 1) v /\ (prt (n + 1) v).length + r.length <= t.length + 1 /\ r.length < t.length := by
 have hb := blk_len t
 have fin : ∀ ks : List JV, (∀ x ∈ ks, may n x) -> may (n + 1) (vList ks) /\ (prt (n + 1) (vList ks)).length = (joinC (ks.map (prt n))).length + 2 := fun ks hk => by
  refine ⟨.inr ⟨.inl rfl, ⟨.inl rfl, .inl rfl, .inr (.inl rfl), rfl⟩, ⟨by simp [vList, JV.names], by simp [vList, JV.names]⟩, hk⟩, ?_⟩
  rw [prt, if_pos (show (vList ks).kind = 4 from rfl)]
  simp [vList, JV.kids]
 unfold lst at h
 split at h
 . rename_i hh
   cases h
   have ht := tail_len hh
   obtain ⟨h1, h2⟩ := fin [] (by simp)
   refine ⟨h1, ?_, by omega⟩
   rw [h2]; simp [joinC]; simp at ht; omega
 . obtain ⟨ks, rfl, g1, g2, g3⟩ := lstL_good hf _ _ _ _ _ h (by simp)
   obtain ⟨h1, h2⟩ := fin ks g1
   refine ⟨h1, ?_, by omega⟩
   rw [h2]; rw [if_pos rfl] at g2; omega
theorem nam_spec {ns : List B} {l s r : B} (h : nam ns l = some (s, r)) : Valid s /\ s ∉ ns /\ (quote s).length + 1 + r.length <= l.length := by
 unfold nam at h
 have hb := blk_len l
 split at h
 . rename_i hh
   have ht := tail_len hh
   split at h
   . rename_i s' r' he
     split at h
     . cases h
     . rename_i hn
       split at h
       . rename_i hc
         cases h
         have hv := txtF_valid _ _ _ _ _ (Nat.le_refl _) he .nil
         have hl := txtF_len _ _ _ _ _ (Nat.le_refl _) he
         have hb2 := blk_len r'
         have ht2 := tail_len hc
         simp only [List.flatMap_nil, List.length_nil, Nat.zero_add] at hl
         refine ⟨hv, hn, ?_⟩
         rw [quote]; simp only [List.length_cons, List.length_append, List.length_nil]; omega
       . cases h
   . cases h
 . cases h
theorem zip_snoc {α β γ : Type} (f : α -> β -> γ) {xs : List α} {bs : List β} (h : xs.length = bs.length) (a : α) (b : β) : List.zipWith f (xs ++ [a]) (bs ++ [b]) = List.zipWith f xs bs ++ [f a b] := by
 induction xs generalizing bs with
 | nil => cases bs with
   | nil => rfl
   | cons x r => cases h
 | cons x r ih => cases bs with
   | nil => cases h
   | cons y s => simp only [List.cons_append, List.zipWith_cons_cons]; rw [ih (by simpa using h)]
theorem objL_good {f : B -> R} {n : Nat} (hf : Good f n) : ∀ (k : Nat) (l : B) (ns : List B) (acc : List JV) (v : JV) (r : B), objL f k l ns acc = .ok (v, r) -> (∀ x ∈ acc, may n x) -> ns.length = acc.length -> namesOk ns ->
 ∃ nm ks, v = vObj nm ks /\ (∀ x ∈ ks, may n x) /\ nm.length = ks.length /\ namesOk nm /\ (joinC (List.zipWith ent nm (ks.map (prt n)))).length + 1 + r.length <= (if acc = [] then 0 else (joinC (List.zipWith ent ns (acc.map (prt n)))).length + 1) + l.length /\ r.length < l.length
 | 0, _, _, _, _, _, h, _, _, _ => by cases h
 | k + 1, l, ns, acc, v, r, h, ha, hln, hns => by
   rw [objL] at h
   split at h
   . cases h
   rename_i s r0 hnm
   obtain ⟨m1, m2, m3⟩ := nam_spec hnm
   split at h
   . cases h
   rename_i u r1 he
   obtain ⟨h1, h2, h3⟩ := hf _ _ _ he
   have hb := blk_len r1
   have hq : 0 < (quote s).length := by rw [quote]; simp
   have ha' : ∀ x ∈ acc ++ [u], may n x := fun x hx => by
    rcases List.mem_append.1 hx with hx | hx
    . exact ha x hx
    . rw [List.mem_singleton.1 hx]; exact h1
   have hln' : (ns ++ [s]).length = (acc ++ [u]).length := by simp [hln]
   have hns' : namesOk (ns ++ [s]) := ⟨fun x hx => by
    rcases List.mem_append.1 hx with hx | hx
    . exact hns.1 x hx
    . rw [List.mem_singleton.1 hx]; exact m1, by
    rw [List.nodup_append]
    exact ⟨hns.2, by simp, fun a ha b hb e => by rw [List.mem_singleton.1 hb] at e; exact m2 (e ▸ ha)⟩⟩
   have hz : List.zipWith ent (ns ++ [s]) ((acc ++ [u]).map (prt n)) = List.zipWith ent ns (acc.map (prt n)) ++ [ent s (prt n u)] := by
    rw [List.map_append, List.map_cons, List.map_nil, zip_snoc _ (by simp [hln])]
   have hj := joinC_len (ent s (prt n u)) (List.zipWith ent ns (acc.map (prt n)))
   have hel : (ent s (prt n u)).length = (quote s).length + 1 + (prt n u).length := by rw [ent]; simp; omega
   have hne : (List.zipWith ent ns (acc.map (prt n)) = []) ↔ acc = [] := by
    rw [List.zipWith_eq_nil_iff, List.map_eq_nil_iff]
    constructor
    . rintro (h | h)
      . rw [h] at hln; exact List.length_eq_zero_iff.1 hln.symm
      . exact h
    . exact .inr
   split at h
   . rename_i hh
     cases h
     have ht := tail_len hh
     refine ⟨_, _, rfl, ha', hln', hns', ?_, by omega⟩
     rw [hz, hj]
     by_cases hc : acc = []
     . rw [if_pos (hne.2 hc), if_pos hc]; omega
     . rw [if_neg fun e => hc (hne.1 e), if_neg hc]; omega
   split at h
   . rename_i hh
     have ht := tail_len hh
     obtain ⟨nm, ks, rfl, g1, g2, g3, g4, g5⟩ := objL_good hf k _ _ _ _ _ h ha' hln' hns'
     refine ⟨nm, ks, rfl, g1, g2, g3, ?_, by omega⟩
     rw [if_neg (by simp), hz, hj] at g4
     by_cases hc : acc = []
     . rw [if_pos (hne.2 hc)] at g4; rw [if_pos hc]; omega
     . rw [if_neg fun e => hc (hne.1 e)] at g4; rw [if_neg hc]; omega
   . cases h
theorem obj_good {f : B -> R} {n : Nat} (hf : Good f n) {t r : B} {v : JV} (h : obj f t = .ok (v, r)) : may (n + 1) v /\ (prt (n + 1) v).length + r.length <= t.length + 1 /\ r.length < t.length := by
 have hb := blk_len t
 have fin : ∀ (nm : List B) (ks : List JV), (∀ x ∈ ks, may n x) -> nm.length = ks.length -> namesOk nm -> may (n + 1) (vObj nm ks) /\ (prt (n + 1) (vObj nm ks)).length = (joinC (List.zipWith ent nm (ks.map (prt n)))).length + 2 := fun nm ks hk hl hn => by
  refine ⟨.inr ⟨.inr rfl, ⟨.inl rfl, .inl rfl, .inr (.inr rfl), hl⟩, hn, hk⟩, ?_⟩
  rw [prt, if_neg (show ¬ (vObj nm ks).kind = 4 from (by decide : (5 : UInt8) ≠ 4)), if_pos (show (vObj nm ks).kind = 5 from rfl)]
  simp [vObj, JV.kids, JV.names]
 unfold obj at h
 split at h
 . rename_i hh
   cases h
   have ht := tail_len hh
   obtain ⟨h1, h2⟩ := fin [] [] (by simp) rfl ⟨by simp, by simp⟩
   refine ⟨h1, ?_, by omega⟩
   rw [h2]; simp [joinC]; simp at ht; omega
 . obtain ⟨nm, ks, rfl, g1, g2, g3, g4, g5⟩ := objL_good hf _ _ _ _ _ _ h (by simp) rfl ⟨by simp, by simp⟩
   obtain ⟨h1, h2⟩ := fin nm ks g1 g2 g3
   refine ⟨h1, ?_, by omega⟩
   rw [h2]; rw [if_pos rfl] at g4; omega
theorem val_good : ∀ n, Good (val n) n
 | 0 => by
   intro l v r h
   have hb := blk_len l
   rw [val] at h
   split at h
   . cases h
   . obtain ⟨h1, h2, h3⟩ := valL_good 0 _ _ _ h
     exact ⟨h1, by omega, by omega⟩
 | n + 1 => by
   intro l v r h
   have hb := blk_len l
   rw [val] at h
   split at h
   . rename_i hh
     have ht := tail_len hh
     obtain ⟨h1, h2, h3⟩ := lst_good (val_good n) h
     exact ⟨h1, by omega, by omega⟩
   split at h
   . rename_i hh
     have ht := tail_len hh
     obtain ⟨h1, h2, h3⟩ := obj_good (val_good n) h
     exact ⟨h1, by omega, by omega⟩
   . obtain ⟨h1, h2, h3⟩ := valL_good (n + 1) _ _ _ h
     exact ⟨h1, by omega, by omega⟩
end Go.J
namespace Go.J
def wide (v : JV) : Prop := -2 ^ 63 <= v.num /\ v.num < 2 ^ 63
def fits : Nat -> JV -> Prop
 | 0, v => wide v
 | n + 1, v => wide v /\ ∀ k ∈ v.kids, fits n k
theorem fits_wide {n : Nat} {v : JV} (h : fits n v) : wide v := by cases n with
 | zero => exact h
 | succ n => exact h.1
theorem lit_app (w r : B) (v : JV) : lit w v (w ++ r) = .ok (v, r) := by
 unfold lit
 rw [if_pos (List.isPrefixOf_iff_prefix.2 (List.prefix_append w r)), List.drop_left]
theorem prt_head {n : Nat} {v : JV} (h : may n v) : ∃ a t, prt n v = a :: t /\ isB a = false /\ a ≠ 93 /\ a ≠ 44 /\ a ≠ 125 := by
 have leaf : mayL v -> ∃ a t, prtL v = a :: t /\ isB a = false /\ a ≠ 93 /\ a ≠ 44 /\ a ≠ 125 := by
  intro h
  unfold prtL
  split
  . exact ⟨110, _, rfl, by decide, by decide, by decide, by decide⟩
  split
  . split
    . exact ⟨116, _, rfl, by decide, by decide, by decide, by decide⟩
    . exact ⟨102, _, rfl, by decide, by decide, by decide, by decide⟩
  split
  . unfold numS
    split
    . exact ⟨45, _, rfl, by decide, by decide, by decide, by decide⟩
    . have hd := dn_digits v.num.toNat
      cases hc : dn v.num.toNat with
      | nil => exact absurd hc (dn_ne _)
      | cons a t =>
        have ha := hd a (by rw [hc]; simp)
        refine ⟨a, t, rfl, ?_, ?_, ?_, ?_⟩
        . have hn : 48 <= a.toNat /\ a.toNat <= 57 := of_decide_eq_true ha
          have ne : ∀ x : UInt8, x.toNat < 48 -> a ≠ x := fun x hx e => by subst e; omega
          unfold isB
          rw [decide_eq_false (ne 32 (by decide)), decide_eq_false (ne 9 (by decide)), decide_eq_false (ne 10 (by decide)), decide_eq_false (ne 13 (by decide))]; rfl
        . rintro rfl; exact absurd ha (by decide)
        . rintro rfl; exact absurd ha (by decide)
        . rintro rfl; exact absurd ha (by decide)
  . exact ⟨34, _, rfl, by decide, by decide, by decide, by decide⟩
 cases n with
 | zero => exact leaf h
 | succ n =>
   rw [prt]
   split
   . exact ⟨91, _, rfl, by decide, by decide, by decide, by decide⟩
   split
   . exact ⟨123, _, rfl, by decide, by decide, by decide, by decide⟩
   . rcases h with h | h
     . exact leaf h
     . rename_i h4 h5
       exact absurd h.1 (by rintro (e | e); exact h4 e; exact h5 e)
theorem mk_eta (v : JV) : v = .mk v.kind v.num v.text v.kids v.names := by cases v; rfl
def after (v : JV) (r : B) : Prop := v.kind = 2 -> ∀ x, r.head? = some x -> isD x = false
theorem valL_prt {v : JV} (h : mayL v) (hw : wide v) {r : B} (ha : after v r) : valL (prtL v ++ r) = .ok (v, r) := by
 obtain ⟨⟨b1, b2, b3, b4⟩, hk⟩ := h
 have e := mk_eta v
 rcases hk with k | k | ⟨k, kn⟩ | ⟨k, kv⟩
 . rw [k] at b1 b2 b3 b4
   have e1 : v.num = 0 := b1.resolve_right (by decide)
   have e2 : v.text = [] := b2.resolve_right (by decide)
   have e3 : v.kids = [] := b3.resolve_right (by decide)
   have e4 : v.names = [] := List.length_eq_zero_iff.1 b4
   rw [k, e1, e2, e3, e4] at e
   rw [prtL, if_pos k, e]
   exact lit_app [110, 117, 108, 108] r vNull
 . rw [k] at b2 b3 b4
   have e2 : v.text = [] := b2.resolve_right (by decide)
   have e3 : v.kids = [] := b3.resolve_right (by decide)
   have e4 : v.names = [] := List.length_eq_zero_iff.1 b4
   rw [k, e2, e3, e4] at e
   rw [prtL, if_neg (by rw [k]; decide), if_neg (by rw [k]; decide), if_pos k]
   have hn := num_numS hw.1 hw.2 (ha k)
   obtain ⟨a, t, hh, -⟩ := prt_head (n := 0) (v := v) ⟨⟨b1, .inl e2, .inl e3, by rw [k]; simp [e4]⟩, .inr (.inl k)⟩
   have hp : prt 0 v = numS v.num := by rw [prt, prtL, if_neg (by rw [k]; decide), if_neg (by rw [k]; decide), if_pos k]
   rw [hp] at hh
   have hd : a = 45 ∨ isD a = true := by
    unfold numS at hh
    split at hh
    . exact .inl (List.cons.inj hh).1.symm
    . exact .inr (dn_digits _ a (by rw [hh]; simp))
   rw [hh, List.cons_append] at hn ⊢
   unfold valL
   have q : a ≠ 110 /\ a ≠ 116 /\ a ≠ 102 /\ a ≠ 34 := by
    rcases hd with rfl | hd
    . decide
    . refine ⟨?_, ?_, ?_, ?_⟩ <;> rintro rfl <;> exact absurd hd (by decide)
   dsimp only
   rw [if_neg q.1, if_neg q.2.1, if_neg q.2.2.1, if_neg q.2.2.2, hn]
   dsimp only
   rw [vNum, <- e]
 . rw [k] at b2 b3 b4
   have e2 : v.text = [] := b2.resolve_right (by decide)
   have e3 : v.kids = [] := b3.resolve_right (by decide)
   have e4 : v.names = [] := List.length_eq_zero_iff.1 b4
   rw [k, e2, e3, e4] at e
   rw [prtL, if_neg (by rw [k]; decide), if_pos k]
   rcases kn with kn | kn
   . rw [kn] at e
     rw [if_neg (by rw [kn]; decide), e]
     exact lit_app [102, 97, 108, 115, 101] r (vBool 0)
   . rw [kn] at e
     rw [if_pos kn, e]
     exact lit_app [116, 114, 117, 101] r (vBool 1)
 . rw [k] at b1 b3 b4
   have e1 : v.num = 0 := b1.resolve_right (by decide)
   have e3 : v.kids = [] := b3.resolve_right (by decide)
   have e4 : v.names = [] := List.length_eq_zero_iff.1 b4
   rw [k, e1, e3, e4] at e
   rw [prtL, if_neg (by rw [k]; decide), if_neg (by rw [k]; decide), if_neg (by rw [k]; decide), quote, List.cons_append, List.append_assoc, List.cons_append, List.nil_append]
   unfold valL
   dsimp only
   rw [if_neg (by decide), if_neg (by decide), if_neg (by decide), if_pos rfl, txtF_quote kv]
   dsimp only
   rw [List.nil_append, vText, <- e]
def Back (f : B -> R) (n : Nat) : Prop := ∀ (v : JV) (r : B), may n v -> fits n v -> after v r -> f (prt n v ++ r) = .ok (v, r)
theorem blk_prt {n : Nat} {v : JV} (h : may n v) (r : B) : blk (prt n v ++ r) = prt n v ++ r := by
 obtain ⟨a, t, e, h1, _⟩ := prt_head h
 rw [e, List.cons_append, blk_ne h1]
theorem nodig {x : UInt8} (h : x = 93 ∨ x = 44 ∨ x = 125) {v : JV} (r : B) : after v (x :: r) := by
 intro _ y hy
 cases hy
 rcases h with rfl | rfl | rfl <;> decide
theorem lstL_back {f : B -> R} {n : Nat} (hf : Back f n) (r : B) : ∀ (ks : List JV) (v : JV) (k : Nat) (acc : List JV), (∀ x ∈ v :: ks, may n x /\ fits n x) -> ks.length < k ->
 lstL f k (joinC ((v :: ks).map (prt n)) ++ 93 :: r) acc = .ok (vList (acc ++ v :: ks), r)
 | [], v, k + 1, acc, hm, _ => by
   rw [lstL, List.map_cons, List.map_nil, joinC, hf v (93 :: r) (hm v (by simp)).1 (hm v (by simp)).2 (nodig (.inl rfl) r)]
   dsimp only
   rw [blk_ne (by decide), List.head?_cons, if_pos rfl]; rfl
 | u :: ks, v, k + 1, acc, hm, hk => by
   have ih := lstL_back hf r ks u k (acc ++ [v]) (fun x hx => hm x (by simp at hx ⊢; exact .inr hx)) (by simp at hk; omega)
   rw [lstL, List.map_cons, List.map_cons, joinC, List.append_assoc, List.cons_append, hf v _ (hm v (by simp)).1 (hm v (by simp)).2 (nodig (.inr (.inl rfl)) _)]
   dsimp only
   rw [blk_ne (by decide), List.head?_cons, if_neg (by simp), if_pos rfl, List.tail_cons, <- List.map_cons, ih, List.append_assoc]; rfl
 | _, _, 0, _, _, hk => by omega
theorem nam_back {ns : List B} {s r : B} (hv : Valid s) (hn : s ∉ ns) : nam ns (quote s ++ 58 :: r) = some (s, r) := by
 unfold nam
 rw [quote, List.cons_append, List.append_assoc, List.cons_append, List.nil_append, blk_ne (by decide), List.head?_cons, if_pos rfl, List.tail_cons, txtF_quote hv]
 dsimp only
 rw [List.nil_append, if_neg hn, blk_ne (by decide), List.head?_cons, if_pos rfl]; rfl
theorem objL_back {f : B -> R} {n : Nat} (hf : Back f n) (r : B) : ∀ (ks : List JV) (nm : List B) (s : B) (v : JV) (k : Nat) (ns : List B) (acc : List JV), nm.length = ks.length -> (∀ x ∈ v :: ks, may n x /\ fits n x) -> namesOk (ns ++ s :: nm) -> ks.length < k ->
 objL f k (joinC (List.zipWith ent (s :: nm) ((v :: ks).map (prt n))) ++ 125 :: r) ns acc = .ok (vObj (ns ++ s :: nm) (acc ++ v :: ks), r)
 | [], [], s, v, k + 1, ns, acc, _, hm, hn, _ => by
   have h1 := hn.1 s (by simp)
   have h2 : s ∉ ns := fun h => by
    have := (List.nodup_append.1 hn.2).2.2 s h s (by simp)
    exact this rfl
   rw [objL, List.map_cons, List.map_nil, List.zipWith_cons_cons, List.zipWith_nil_left, joinC, ent, List.append_assoc, List.cons_append, nam_back h1 h2]
   dsimp only
   rw [hf v (125 :: r) (hm v (by simp)).1 (hm v (by simp)).2 (nodig (.inr (.inr rfl)) r)]
   dsimp only
   rw [blk_ne (by decide), List.head?_cons, if_pos rfl]; rfl
 | u :: ks, t :: nm, s, v, k + 1, ns, acc, hl, hm, hn, hk => by
   have h1 := hn.1 s (by simp)
   have h2 : s ∉ ns := fun h => by
    have := (List.nodup_append.1 hn.2).2.2 s h s (by simp)
    exact this rfl
   have ih := objL_back hf r ks nm t u k (ns ++ [s]) (acc ++ [v]) (by simpa using hl) (fun x hx => hm x (by simp at hx ⊢; exact .inr hx)) (by rw [List.append_assoc]; exact hn) (by simp at hk; omega)
   rw [objL, List.map_cons, List.map_cons, List.zipWith_cons_cons, List.zipWith_cons_cons, joinC, ent, List.append_assoc, List.append_assoc, List.cons_append, nam_back h1 h2]
   dsimp only
   rw [List.cons_append, hf v _ (hm v (by simp)).1 (hm v (by simp)).2 (nodig (.inr (.inl rfl)) _)]
   dsimp only
   rw [blk_ne (by decide), List.head?_cons, if_neg (by simp), if_pos rfl, List.tail_cons, <- List.zipWith_cons_cons, <- List.map_cons, ih, List.append_assoc, List.append_assoc]; rfl
 | [], _ :: _, _, _, _, _, _, hl, _, _, _ => by cases hl
 | _ :: _, [], _, _, _, _, _, hl, _, _, _ => by cases hl
 | _, _, _, _, 0, _, _, _, _, _, hk => by omega
theorem joinC_nlen {l : List B} (h : ∀ x ∈ l, 0 < x.length) : l.length <= (joinC l).length := by
 induction l with
 | nil => simp
 | cons a r ih =>
   cases r with
   | nil => simp [joinC]; exact h a (by simp)
   | cons b r =>
     have := ih fun x hx => h x (by simp at hx ⊢; exact .inr hx)
     have := h a (by simp)
     simp only [joinC, List.length_append, List.length_cons] at *
     omega
theorem prt_pos {n : Nat} {v : JV} (h : may n v) : 0 < (prt n v).length := by
 obtain ⟨a, t, e, _⟩ := prt_head h
 rw [e]; simp
theorem joinC_cons_head {a : UInt8} {t : B} (l : List B) : ∃ t', joinC ((a :: t) :: l) = a :: t' := by
 cases l with
 | nil => exact ⟨t, rfl⟩
 | cons x r => exact ⟨_, by rw [joinC, List.cons_append]⟩
theorem val_back : ∀ n, Back (val n) n
 | 0 => by
   intro v r hm hw ha
   have hb := mayL_bare hm
   rw [val, blk_prt hm]
   obtain ⟨a, t, e, h1, h2, h3, h4⟩ := prt_head hm
   have hh : ¬ ((prt 0 v ++ r).head? = some 91 ∨ (prt 0 v ++ r).head? = some 123) := by
    rw [prt]
    have : ∀ x, x = 91 ∨ x = 123 -> (prtL v ++ r).head? ≠ some x := by
     intro x hx
     unfold prtL
     split
     . rcases hx with rfl | rfl <;> simp
     split
     . split <;> (rcases hx with rfl | rfl <;> simp)
     split
     . unfold numS
       split
       . rcases hx with rfl | rfl <;> simp
       . rw [head_app (dn_ne _)]
         intro hy
         have := dn_digits _ x (List.mem_of_head? hy)
         rcases hx with rfl | rfl <;> exact absurd this (by decide)
     . rcases hx with rfl | rfl <;> simp [quote]
    rintro (h | h)
    . exact this 91 (.inl rfl) h
    . exact this 123 (.inr rfl) h
   rw [if_neg hh]
   exact valL_prt hm hw ha
 | n + 1 => by
   intro v r hm hw ha
   have hfw := hw.2
   rw [val, blk_prt hm]
   rcases hm with hm | ⟨hk, hb, hn, hks⟩
   . have hh := val_back 0 v r hm hw.1 ha
     have h2 := prt_leaf hm
     rw [val, show prt 0 v = prtL v from rfl, show blk (prtL v ++ r) = prtL v ++ r from by rw [<- h2 0]; exact blk_prt (n := 0) hm r] at hh
     rw [h2 (n + 1)]
     split at hh
     . cases hh
     . rename_i hx
       rw [if_neg fun e => hx (.inl e), if_neg fun e => hx (.inr e)]
       exact hh
   . obtain ⟨b1, b2, b3, b4⟩ := hb
     have hmk := mk_eta v
     rcases hk with k | k
     . rw [k] at b1 b2 b3 b4 hmk
       have e1 : v.num = 0 := b1.resolve_right (by decide)
       have e2 : v.text = [] := b2.resolve_right (by decide)
       have e4 : v.names = [] := List.length_eq_zero_iff.1 b4
       rw [e1, e2, e4] at hmk
       rw [prt, if_pos k, List.cons_append, List.head?_cons, if_pos rfl, List.tail_cons, List.append_assoc, List.cons_append, List.nil_append]
       unfold lst
       cases hc : v.kids with
       | nil =>
         rw [List.map_nil, joinC, List.nil_append, blk_ne (by decide), List.head?_cons, if_pos rfl, hmk, hc]; rfl
       | cons u ks =>
         rw [hc] at hks hfw
         have hu := hks u (by simp)
         obtain ⟨a, t, e, h1, h2, h3, h4⟩ := prt_head hu
         obtain ⟨t', e'⟩ := joinC_cons_head (a := a) (t := t) (ks.map (prt n))
         have hbk : blk (joinC ((u :: ks).map (prt n)) ++ 93 :: r) = joinC ((u :: ks).map (prt n)) ++ 93 :: r := by
          rw [List.map_cons, e, e', List.cons_append, blk_ne h1]
         rw [hbk]
         have hhd : ¬ (joinC ((u :: ks).map (prt n)) ++ 93 :: r).head? = some 93 := by
          rw [List.map_cons, e, e', List.cons_append, List.head?_cons]
          intro h; exact h2 (Option.some.inj h)
         have hjl := joinC_nlen (l := (u :: ks).map (prt n)) fun x hx => by
          obtain ⟨y, hy, rfl⟩ := List.mem_map.1 hx
          exact prt_pos (hks y hy)
         rw [if_neg hhd, lstL_back (val_back n) r ks u _ [] (fun x hx => ⟨hks x hx, hfw x hx⟩) (by
          rw [List.length_map, List.length_cons] at hjl
          rw [List.length_append, List.length_cons]; omega), List.nil_append, hmk, hc]; rfl
     . rw [k] at b1 b2 b3 b4 hmk
       have e1 : v.num = 0 := b1.resolve_right (by decide)
       have e2 : v.text = [] := b2.resolve_right (by decide)
       rw [e1, e2] at hmk
       rw [if_pos rfl] at b4
       have k4 : ¬ v.kind = 4 := by rw [k]; decide
       rw [prt, if_neg k4, if_pos k, List.cons_append, List.head?_cons, if_neg (by simp), if_pos rfl, List.tail_cons, List.append_assoc, List.cons_append, List.nil_append]
       unfold obj
       cases hc : v.kids with
       | nil =>
         rw [hc] at b4
         have e4 := List.length_eq_zero_iff.1 b4
         rw [e4, List.zipWith_nil_left, joinC, List.nil_append, blk_ne (by decide), List.head?_cons, if_pos rfl, hmk, hc, e4]; rfl
       | cons u ks =>
         rw [hc] at hks hfw b4
         cases hns : v.names with
         | nil => rw [hns] at b4; cases b4
         | cons s nm =>
           rw [hns] at b4 hn
           have hbk : ∀ z, ∃ t', joinC (List.zipWith ent (s :: nm) ((u :: ks).map (prt n))) ++ z = 34 :: t' := by
            intro z
            rw [List.map_cons, List.zipWith_cons_cons, ent, quote, List.cons_append]
            obtain ⟨t', e'⟩ := joinC_cons_head (a := 34) (t := List.flatMap qb s ++ [34] ++ 58 :: prt n u) (List.zipWith ent nm (ks.map (prt n)))
            exact ⟨t' ++ z, by rw [e', List.cons_append]⟩
           obtain ⟨t', e'⟩ := hbk (125 :: r)
           have hjl := joinC_nlen (l := List.zipWith ent (s :: nm) ((u :: ks).map (prt n))) fun x hx => by
            obtain ⟨i, h1, rfl⟩ := List.getElem_of_mem hx
            rw [List.getElem_zipWith, ent, quote]; simp
           have hlen : ks.length < (blk (joinC (List.zipWith ent (s :: nm) ((u :: ks).map (prt n))) ++ 125 :: r)).length + 1 := by
            rw [e', blk_ne (by decide), <- e']
            rw [List.length_zipWith, List.length_map, b4, Nat.min_self, List.length_cons] at hjl
            rw [List.length_append]; omega
           have := objL_back (val_back n) r ks nm s u _ [] [] (by simpa using b4) (fun x hx => ⟨hks x hx, hfw x hx⟩) hn hlen
           rw [if_neg (by rw [e', blk_ne (by decide)]; simp)]
           rw [e', blk_ne (by decide), <- e'] at this ⊢
           rw [this, List.nil_append, List.nil_append, hmk, hc, hns]; rfl
end Go.J
namespace Go.J
theorem fits_small {v : JV} (h : -2 ^ 63 <= v.num /\ v.num < 2 ^ 63) (hk : v.kids = []) (n : Nat) : fits n v := by
 cases n with
 | zero => exact h
 | succ n => exact ⟨h, by rw [hk]; simp⟩
theorem val_blk (n : Nat) {w l : B} (h : ∀ x ∈ w, isB x = true) : val n (w ++ l) = val n l := by
 cases n <;> rw [val, val, blk_app h]
theorem blk_all {w : B} (h : ∀ x ∈ w, isB x = true) : blk w = [] := by
 have := blk_app (l := []) h
 rwa [List.append_nil] at this
theorem parse_prt {v : JV} (hm : may 8 v) (hf : fits 8 v) {w w' : B} (h : ∀ x ∈ w, isB x = true) (h' : ∀ x ∈ w', isB x = true) (hl : (w ++ (prt 8 v ++ w')).length <= 65536) : parse (w ++ (prt 8 v ++ w')) = .ok v := by
 have ha : after v w' := by
  intro _ x hx
  cases w' with
  | nil => cases hx
  | cons a r =>
    cases hx
    have := h' x (by simp)
    unfold isB at this
    simp only [Bool.or_eq_true, decide_eq_true_eq] at this
    rcases this with ((rfl | rfl) | rfl) | rfl <;> decide
 unfold parse
 rw [if_neg (by omega), val_blk 8 h, val_back 8 v w' hm hf ha]
 dsimp only
 rw [blk_all h', if_pos rfl]
def nestV (o : Bool) : Nat -> JV
 | 0 => vNum 7
 | k + 1 => if o then vObj [[120]] [nestV o k] else vList [nestV o k]
def nestB (o : Bool) : Nat -> B
 | 0 => [55]
 | k + 1 => if o then [123, 34, 120, 34, 58] ++ nestB o k ++ [125] else [91] ++ nestB o k ++ [93]
theorem may_leaf_num (z : Int) (n : Nat) : may n (vNum z) := may_leaf ⟨⟨.inr (.inr rfl), .inl rfl, .inl rfl, rfl⟩, .inr (.inl rfl)⟩ n
theorem nest_kind (o : Bool) (k : Nat) : (nestV o (k + 1)).kind = if o then 5 else 4 := by cases o <;> rfl
theorem nest_may (o : Bool) : ∀ (k n : Nat), may n (nestV o k) ↔ k <= n
 | 0, n => ⟨fun _ => Nat.zero_le _, fun _ => may_leaf_num 7 n⟩
 | k + 1, 0 => ⟨fun h => by
  have := mayL_bare h
  rw [nest_kind] at this
  cases o
  . exact absurd rfl this.1
  . exact absurd rfl this.2, fun h => by omega⟩
 | k + 1, n + 1 => by
   have ih := nest_may o k n
   constructor
   . rintro (h | ⟨_, _, _, h⟩)
     . have := mayL_bare h
       rw [nest_kind] at this
       cases o
       . exact absurd rfl this.1
       . exact absurd rfl this.2
     . have := ih.1 (h (nestV o k) (by cases o <;> simp [nestV, vObj, vList, JV.kids]))
       omega
   . intro h
     have hk := ih.2 (by omega)
     have hx : Valid [120] := Valid.one (c := 120) ⟨by omega, by omega⟩
     cases o
     . exact .inr ⟨.inl rfl, ⟨.inl rfl, .inl rfl, .inr (.inl rfl), rfl⟩, ⟨by simp [nestV, vList, JV.names], by simp [nestV, vList, JV.names]⟩, by simp [nestV, vList, JV.kids]; exact hk⟩
     . exact .inr ⟨.inr rfl, ⟨.inl rfl, .inl rfl, .inr (.inr rfl), rfl⟩, ⟨by simp [nestV, vObj, JV.names]; exact hx, by simp [nestV, vObj, JV.names]⟩, by simp [nestV, vObj, JV.kids]; exact hk⟩
theorem nest_fits (o : Bool) : ∀ (k n : Nat), fits n (nestV o k)
 | 0, n => fits_small (v := vNum 7) (by decide : -2 ^ 63 <= (7 : Int) /\ (7 : Int) < 2 ^ 63) rfl n
 | k + 1, 0 => by cases o <;> exact (by decide : -2 ^ 63 <= (0 : Int) /\ (0 : Int) < 2 ^ 63)
 | k + 1, n + 1 => by
   have ih := nest_fits o k n
   cases o
   . exact ⟨(by decide : -2 ^ 63 <= (0 : Int) /\ (0 : Int) < 2 ^ 63), by simp [nestV, vList, JV.kids]; exact ih⟩
   . exact ⟨(by decide : -2 ^ 63 <= (0 : Int) /\ (0 : Int) < 2 ^ 63), by simp [nestV, vObj, JV.kids]; exact ih⟩
theorem nest_prt (o : Bool) : ∀ (k n : Nat), k <= n -> prt n (nestV o k) = nestB o k
 | 0, n, _ => by
   rw [show nestV o 0 = vNum 7 from rfl, prt_leaf (v := vNum 7) ⟨⟨.inr (.inr rfl), .inl rfl, .inl rfl, rfl⟩, .inr (.inl rfl)⟩]
   show numS 7 = [55]
   rw [numS, if_neg (by decide), dn, if_pos (by decide)]; rfl
 | k + 1, n + 1, h => by
   have ih := nest_prt o k n (by omega)
   cases o
   . rw [prt, if_pos (show (nestV false (k + 1)).kind = 4 from rfl)]
     show 91 :: (joinC [prt n (nestV false k)] ++ [93]) = [91] ++ nestB false k ++ [93]
     rw [ih]; rfl
   . rw [prt, if_neg (show ¬ (nestV true (k + 1)).kind = 4 from (by decide : (5 : UInt8) ≠ 4)), if_pos (show (nestV true (k + 1)).kind = 5 from rfl)]
     show 123 :: (joinC [ent [120] (prt n (nestV true k))] ++ [125]) = [123, 34, 120, 34, 58] ++ nestB true k ++ [125]
     rw [ih]; rfl
theorem nest_deep (o : Bool) : ∀ (n k : Nat) (r : B), n < k -> val n (nestB o k ++ r) = .error 6
 | 0, k + 1, r, _ => by
   cases o
   . rw [show nestB false (k + 1) ++ r = 91 :: (nestB false k ++ [93] ++ r) by simp [nestB], val, blk_ne (by decide), if_pos (.inl rfl)]
   . rw [show nestB true (k + 1) ++ r = 123 :: (34 :: 120 :: 34 :: 58 :: (nestB true k ++ [125] ++ r)) by simp [nestB], val, blk_ne (by decide), if_pos (.inr rfl)]
 | n + 1, k + 1, r, h => by
   cases o
   . have ih := nest_deep false n k ([93] ++ r) (by omega)
     have hb : blk (nestB false k ++ ([93] ++ r)) = nestB false k ++ ([93] ++ r) /\ (nestB false k ++ ([93] ++ r)).head? ≠ some 93 := by
      cases k with
      | zero => omega
      | succ k => rw [show nestB false (k + 1) ++ ([93] ++ r) = 91 :: (nestB false k ++ [93] ++ ([93] ++ r)) by simp [nestB]]; exact ⟨blk_ne (by decide), by simp⟩
     rw [show nestB false (k + 1) ++ r = 91 :: (nestB false k ++ ([93] ++ r)) by simp [nestB], val, blk_ne (by decide), List.head?_cons, if_pos rfl, List.tail_cons, lst, hb.1, if_neg hb.2, lstL, ih]
   . have ih := nest_deep true n k ([125] ++ r) (by omega)
     have hn : nam [] (34 :: 120 :: 34 :: 58 :: (nestB true k ++ ([125] ++ r))) = some ([120], nestB true k ++ ([125] ++ r)) := by
      have := nam_back (ns := []) (s := [120]) (r := nestB true k ++ ([125] ++ r)) (Valid.one (c := 120) ⟨by omega, by omega⟩) (by simp)
      rw [<- this]; rfl
     rw [show nestB true (k + 1) ++ r = 123 :: (34 :: 120 :: 34 :: 58 :: (nestB true k ++ ([125] ++ r))) by simp [nestB], val, blk_ne (by decide), List.head?_cons, if_neg (by simp), if_pos rfl, List.tail_cons, obj, blk_ne (by decide), if_neg (by simp), objL, hn]
     dsimp only
     rw [ih]
theorem nest_len (o : Bool) (k : Nat) : (nestB o k).length = 1 + (if o then 6 * k else 2 * k) := by
 induction k with
 | zero => cases o <;> rfl
 | succ k ih => cases o <;> simp [nestB] at ih ⊢ <;> omega
theorem nest_parse (o : Bool) {k : Nat} (h : k <= 12) : parse (nestB o k) = if k <= 8 then .ok (nestV o k) else .error 6 := by
 have hl : (nestB o k).length <= 65536 := by rw [nest_len]; split <;> omega
 split
 . rename_i hk
   have := parse_prt (v := nestV o k) (w := []) (w' := []) ((nest_may o k 8).2 hk) (nest_fits o k 8) (by simp) (by simp)
   rw [nest_prt o k 8 hk, List.append_nil, List.nil_append] at this
   exact this hl
 . rename_i hk
   have := nest_deep o 8 k [] (by omega)
   rw [List.append_nil] at this
   unfold parse
   rw [if_neg (by omega), this]
end Go.J
namespace Go.J
theorem enc_length (c : Nat) : (enc c).length = if okC c then (if c < 0x80 then 1 else if c < 0x800 then 2 else if c < 0x10000 then 3 else 4) else 0 := by
 split
 . rename_i ok
   rcases enc_cases ok with ⟨h, e⟩ | ⟨h1, h2, e⟩ | ⟨h1, h2, e⟩ | ⟨h1, e⟩ <;> rw [e]
   . rw [if_pos h]
   . rw [if_neg (by omega), if_pos h2]
   . rw [if_neg (by omega), if_neg (by omega), if_pos h2]
   . rw [if_neg (by omega), if_neg (by omega), if_neg (by omega)]
 . rename_i ok; rw [enc_nil ok]; rfl
theorem isC_iff {x : UInt8} : isC x = true ↔ 0x80 <= x.toNat /\ x.toNat < 0xc0 := decide_eq_true_iff
theorem dec_bad {a : UInt8} (r : B) (h : (0x80 <= a.toNat /\ a.toNat < 0xc2) ∨ 0xf5 <= a.toNat) : dec (a :: r) = (0, 0) := by
 have ch : ∀ c n, (¬ okC c ∨ (enc c).length ≠ n) -> 0 < n -> chk c n = (0, 0) := fun c n h hn => by
  unfold chk
  rw [if_neg]
  rcases h with h | h
  . rw [enc_nil h]; simp; omega
  . exact h
 rw [dec, if_neg (by omega)]
 split
 . rfl
 split
 . rename_i h1 h2
   unfold d2
   split
   . rename_i x t
     split
     . rename_i hx
       have hx := isC_iff.1 hx
       refine ch _ _ (.inr ?_) (by omega)
       rw [enc_length, if_pos (show okC _ from ⟨by omega, by omega⟩), if_pos (by omega)]; omega
     . rfl
   . rfl
 split
 . omega
 split
 . rename_i h1 h2 h3 h4
   unfold d4
   split
   . rename_i x y z t
     split
     . exact ch _ _ (.inl fun ok => by have := ok.1; omega) (by omega)
     . rfl
   . rfl
 . rfl
theorem dec_one {a : UInt8} (r : B) (h : a.toNat < 0x80) : dec (a :: r) = (a.toNat, 1) := by rw [dec, if_pos h]
theorem dec_two {a : UInt8} (r : B) (h : 0xc2 <= a.toNat) (h2 : a.toNat < 0xe0) : dec (a :: r) = match r with
 | x :: _ => if 0x80 <= x.toNat /\ x.toNat < 0xc0 then (64 * (a.toNat - 0xc0) + (x.toNat - 0x80), 2) else (0, 0)
 | [] => (0, 0) := by
 rw [dec, if_neg (by omega), if_neg (by omega), if_pos h2]
 cases r with
 | nil => rfl
 | cons x t =>
   rw [d2]
   dsimp only
   by_cases hx : 0x80 <= x.toNat /\ x.toNat < 0xc0
   . rw [if_pos (isC_iff.2 hx), if_pos hx, chk, if_pos (by rw [enc_length, if_pos (show okC _ from ⟨by omega, by omega⟩), if_neg (by omega), if_pos (by omega)])]
     rw [Prod.mk.injEq]; exact ⟨by omega, rfl⟩
   . rw [if_neg (fun e => hx (isC_iff.1 e)), if_neg hx]
theorem dec_three {a : UInt8} (r : B) (h : 0xe0 <= a.toNat) (h2 : a.toNat < 0xf0) : dec (a :: r) = match r with
 | x :: y :: _ => if (if a.toNat = 0xe0 then 0xa0 else 0x80) <= x.toNat /\ x.toNat <= (if a.toNat = 0xed then 0x9f else 0xbf) /\ 0x80 <= y.toNat /\ y.toNat < 0xc0 then (4096 * (a.toNat - 0xe0) + 64 * (x.toNat - 0x80) + (y.toNat - 0x80), 3) else (0, 0)
 | _ => (0, 0) := by
 rw [dec, if_neg (by omega), if_neg (by omega), if_neg (by omega), if_pos h2]
 match r with
 | [] => rfl
 | [_] => rfl
 | x :: y :: t =>
   rw [d3]
   dsimp only
   by_cases hx : (if a.toNat = 0xe0 then 0xa0 else 0x80) <= x.toNat /\ x.toNat <= (if a.toNat = 0xed then 0x9f else 0xbf) /\ 0x80 <= y.toNat /\ y.toNat < 0xc0
   . rw [if_pos hx]
     have hx' : 0x80 <= x.toNat /\ x.toNat < 0xc0 := by
      obtain ⟨h1, h2, _⟩ := hx
      split at h1 <;> split at h2 <;> omega
     obtain ⟨g1, g2, g3⟩ := hx
     rw [if_pos ⟨isC_iff.2 hx', isC_iff.2 g3⟩, chk]
     have ok : okC (64 * (64 * (a.toNat % 16) + x.toNat % 64) + y.toNat % 64) := ⟨by omega, by
      split at g2 <;> omega⟩
     rw [if_pos (by rw [enc_length, if_pos ok, if_neg (by split at g1 <;> omega), if_neg (by split at g1 <;> omega), if_pos (by omega)])]
     rw [Prod.mk.injEq]; exact ⟨by omega, rfl⟩
   . rw [if_neg hx]
     by_cases hc : isC x = true /\ isC y = true
     . rw [if_pos hc, chk]
       have c1 := isC_iff.1 hc.1
       have c2 := isC_iff.1 hc.2
       rw [if_neg]
       rw [enc_length]
       intro e
       split at e
       . rename_i ok
         have ok2 := ok.2
         refine hx ⟨?_, ?_, c2⟩
         . split
           . rename_i he
             by_cases h8 : 64 * (64 * (a.toNat % 16) + x.toNat % 64) + y.toNat % 64 < 0x800
             . rw [if_pos h8] at e; split at e <;> omega
             . omega
           . exact c1.1
         . split
           . rename_i he; omega
           . omega
       . cases e
     . rw [if_neg hc]
theorem dec_four {a : UInt8} (r : B) (h : 0xf0 <= a.toNat) (h2 : a.toNat < 0xf5) : dec (a :: r) = match r with
 | x :: y :: z :: _ => if (if a.toNat = 0xf0 then 0x90 else 0x80) <= x.toNat /\ x.toNat <= (if a.toNat = 0xf4 then 0x8f else 0xbf) /\ (0x80 <= y.toNat /\ y.toNat < 0xc0) /\ 0x80 <= z.toNat /\ z.toNat < 0xc0 then (262144 * (a.toNat - 0xf0) + 4096 * (x.toNat - 0x80) + 64 * (y.toNat - 0x80) + (z.toNat - 0x80), 4) else (0, 0)
 | _ => (0, 0) := by
 rw [dec, if_neg (by omega), if_neg (by omega), if_neg (by omega), if_neg (by omega), if_pos (by omega)]
 match r with
 | [] => rfl
 | [_] => rfl
 | [_, _] => rfl
 | x :: y :: z :: t =>
   rw [d4]
   dsimp only
   by_cases hx : (if a.toNat = 0xf0 then 0x90 else 0x80) <= x.toNat /\ x.toNat <= (if a.toNat = 0xf4 then 0x8f else 0xbf) /\ (0x80 <= y.toNat /\ y.toNat < 0xc0) /\ 0x80 <= z.toNat /\ z.toNat < 0xc0
   . rw [if_pos hx]
     have hx' : 0x80 <= x.toNat /\ x.toNat < 0xc0 := by
      obtain ⟨h1, h2, _⟩ := hx
      split at h1 <;> split at h2 <;> omega
     obtain ⟨g1, g2, g3, g4⟩ := hx
     rw [if_pos ⟨isC_iff.2 hx', isC_iff.2 g3, isC_iff.2 g4⟩, chk]
     have ok : okC (64 * (64 * (64 * (a.toNat % 8) + x.toNat % 64) + y.toNat % 64) + z.toNat % 64) := ⟨by split at g2 <;> omega, .inr (by split at g1 <;> omega)⟩
     rw [if_pos (by rw [enc_length, if_pos ok, if_neg (by split at g1 <;> omega), if_neg (by split at g1 <;> omega), if_neg (by split at g1 <;> omega)])]
     rw [Prod.mk.injEq]; exact ⟨by omega, rfl⟩
   . rw [if_neg hx]
     by_cases hc : isC x = true /\ isC y = true /\ isC z = true
     . rw [if_pos hc, chk]
       have c1 := isC_iff.1 hc.1
       have c2 := isC_iff.1 hc.2.1
       have c3 := isC_iff.1 hc.2.2
       rw [if_neg]
       rw [enc_length]
       intro e
       split at e
       . rename_i ok
         have ok1 := ok.1
         refine hx ⟨?_, ?_, c2, c3⟩
         . split
           . rename_i he
             by_cases h8 : 64 * (64 * (64 * (a.toNat % 8) + x.toNat % 64) + y.toNat % 64) + z.toNat % 64 < 0x10000
             . rw [if_pos h8] at e
               (repeat' split at e) <;> omega
             . omega
           . exact c1.1
         . split
           . rename_i he; omega
           . omega
       . cases e
     . rw [if_neg hc]
end Go.J
namespace Go.J
open Go.Lib
theorem dval_cons_acc (l : B) (a : Nat) : l.foldl (fun a x => 10 * a + (x.toNat - 48)) a = a * 10 ^ l.length + dval l := by
 induction l generalizing a with
 | nil => simp [dval]
 | cons x r ih =>
   rw [dval, List.foldl_cons, List.foldl_cons, ih, ih, List.length_cons, Nat.pow_succ]
   rw [Nat.mul_zero, Nat.zero_add, Nat.add_mul, Nat.add_assoc, Nat.mul_comm 10 a, Nat.mul_assoc, Nat.mul_comm 10 (10 ^ r.length)]
theorem parseUintM_digits : ∀ (l : B) (acc : Nat), (∀ x ∈ l, isD x = true) -> parseUintM (2 ^ 64 - 1) acc l = if l.foldl (fun a x => 10 * a + (x.toNat - 48)) acc < 2 ^ 64 ∨ l = [] then .ok (l.foldl (fun a x => 10 * a + (x.toNat - 48)) acc) else .range
 | [], acc, _ => by simp [parseUintM]
 | x :: r, acc, h => by
   have hx : 48 <= x.toNat /\ x.toNat <= 57 := of_decide_eq_true (h x (by simp))
   have hr : ∀ y ∈ r, isD y = true := fun y hy => h y (by simp [hy])
   rw [parseUintM, if_pos hx, List.foldl_cons]
   have big : ∀ a : Nat, 2 ^ 64 <= a -> 2 ^ 64 <= r.foldl (fun a x => 10 * a + (x.toNat - 48)) a := by
    intro a ha
    rw [dval_cons_acc]
    have : 1 <= 10 ^ r.length := Nat.one_le_pow _ _ (by omega)
    have := Nat.le_mul_of_pos_right a this
    omega
   have ne : ¬ (x :: r = []) := by simp
   split
   . rename_i h1
     have := big (10 * acc + (x.toNat - 48)) (by omega)
     rw [if_neg (by rintro (h | h); omega; exact ne h)]
   split
   . rename_i h1 h2
     have := big (10 * acc + (x.toNat - 48)) (by omega)
     rw [if_neg (by rintro (h | h); omega; exact ne h)]
   . rename_i h1 h2
     rw [parseUintM_digits r _ hr, Nat.mul_comm acc 10]
     by_cases hc : r.foldl (fun a x => 10 * a + (x.toNat - 48)) (10 * acc + (x.toNat - 48)) < 2 ^ 64
     . rw [if_pos (.inl hc), if_pos (.inl hc)]
     . by_cases hn : r = []
       . subst hn; simp at hc; omega
       . rw [if_neg (by rintro (h | h); exact hc h; exact hn h), if_neg (by rintro (h | h); exact hc h; exact ne h)]
theorem parseInt_pos {d : B} (h : ∀ x ∈ d, isD x = true) (hn : d ≠ []) : parseIntB 64 d = if dval d < 2 ^ 63 then .ok (dval d : Int) else .range := by
 cases d with
 | nil => exact absurd rfl hn
 | cons c r =>
   have hc : 48 <= c.toNat /\ c.toNat <= 57 := of_decide_eq_true (h c (by simp))
   have hu : parseUintM (2 ^ 64 - 1) 0 (c :: r) = if dval (c :: r) < 2 ^ 64 ∨ c :: r = [] then .ok (dval (c :: r)) else .range := parseUintM_digits (c :: r) 0 h
   unfold parseIntB
   dsimp only
   rw [if_neg (by omega), parseUintB, if_neg hn, hu]
   by_cases h1 : dval (c :: r) < 2 ^ 64
   . rw [if_pos (.inl h1)]
     dsimp only
     by_cases h2 : dval (c :: r) < 2 ^ 63
     . rw [if_neg (by omega), if_neg (by omega), if_neg (by omega), if_pos h2]
     . rw [if_pos ⟨by omega, by omega⟩, if_neg h2]
   . rw [if_neg (by rintro (h | h); exact h1 h; exact hn h), if_neg (by omega)]
theorem parseInt_neg {d : B} (h : ∀ x ∈ d, isD x = true) (hn : d ≠ []) : parseIntB 64 (45 :: d) = if dval d <= 2 ^ 63 then .ok (-(dval d : Int)) else .range := by
 have hu : parseUintM (2 ^ 64 - 1) 0 d = if dval d < 2 ^ 64 ∨ d = [] then .ok (dval d) else .range := parseUintM_digits d 0 h
 unfold parseIntB
 dsimp only
 rw [if_pos (.inr rfl), parseUintB, if_neg hn, hu]
 by_cases h1 : dval d < 2 ^ 64
 . rw [if_pos (.inl h1)]
   dsimp only
   by_cases h2 : dval d <= 2 ^ 63
   . rw [if_neg (by rintro ⟨a, _⟩; exact a rfl), if_neg (by rintro ⟨_, b⟩; omega), if_pos (by rfl : UInt8.toNat 45 = 45), if_pos h2]
   . rw [if_neg (by rintro ⟨a, _⟩; exact a rfl), if_pos ⟨rfl, by omega⟩, if_neg h2]
 . rw [if_neg (by rintro (h | h); exact h1 h; exact hn h), if_neg (by omega)]
end Go.J
namespace Go.E
def ba (l : List UInt8) : ByteArray := ⟨l.toArray⟩
def str (l : List UInt8) : AV := .p (.string (ba l))
theorem ba_size (l : List UInt8) : (ba l).size = l.length := by show l.toArray.size = _; simp
theorem ba_get (l : List UInt8) (i : Nat) : (ba l)[i]? = l[i]? := by
 by_cases h : i < l.length
 . rw [List.getElem?_eq_getElem h]
   have h' : i < (ba l).size := by rw [ba_size]; exact h
   rw [getElem?_pos (ba l) i h']
   rfl
 . rw [List.getElem?_eq_none (by omega), getElem?_neg (ba l) i (by rw [ba_size]; exact h)]
theorem ba_data (l : List UInt8) : (ba l).data.toList = l := rfl
theorem ba_inj {a b : List UInt8} : ba a = ba b ↔ a = b := ⟨fun h => by rw [<- ba_data a, h, ba_data], fun h => by rw [h]⟩
open Go.J
mutual
def vcs : JV -> List AV
 | .mk k z s ks ns => [by8 k, .p (.int .i64 z), str s, .vs (vcsL ks) ks.length, .vs (ns.map str) ns.length]
def vcsL : List JV -> List AV
 | [] => []
 | v :: r => vcs v ++ vcsL r
end
theorem vcsL_eq : ∀ l : List JV, vcsL l = l.flatMap vcs
 | [] => by rw [vcsL]; rfl
 | v :: r => by rw [vcsL, vcsL_eq r]; rfl
theorem vcs_eq (v : JV) : vcs v = [by8 v.kind, .p (.int .i64 v.num), str v.text, .vs (v.kids.flatMap vcs) v.kids.length, .vs (v.names.map str) v.names.length] := by
 cases v; rw [vcs, vcsL_eq]; rfl
theorem vcs_len (v : JV) : (vcs v).length = 5 := by rw [vcs_eq]; rfl
theorem str_wo (q : Nat -> Bool) (l : List UInt8) : (str l).wo q = str l := by rw [str, AV.wo]
theorem vcs_wo (q : Nat -> Bool) (v : JV) : (vcs v).map (AV.wo q) = vcs v := by rw [vcs_eq]; simp only [List.map_cons, List.map_nil, AV.wo, str, by8]
theorem vcs_pub (i : Nat) (cs : List AV) (v : JV) : (vcs v).map (AV.pub i cs) = vcs v := by rw [vcs_eq]; simp only [List.map_cons, List.map_nil, AV.pub, str, by8]
end Go.E
namespace Go.E
theorem gn0 (T : Tbl) (o : AObj) (l : Tbl) : (T ++ o :: l)[T.length]? = some o := by simp
theorem gn1 (T : Tbl) (a o : AObj) (l : Tbl) : (T ++ a :: o :: l)[T.length + 1]? = some o := by simp
theorem gn2 (T : Tbl) (a b o : AObj) (l : Tbl) : (T ++ a :: b :: o :: l)[T.length + 2]? = some o := by simp
theorem gn3 (T : Tbl) (a b c o : AObj) (l : Tbl) : (T ++ a :: b :: c :: o :: l)[T.length + 3]? = some o := by simp
theorem gn4 (T : Tbl) (a b c d o : AObj) (l : Tbl) : (T ++ a :: b :: c :: d :: o :: l)[T.length + 4]? = some o := by simp
theorem gn5 (T : Tbl) (a b c d e o : AObj) (l : Tbl) : (T ++ a :: b :: c :: d :: e :: o :: l)[T.length + 5]? = some o := by simp
theorem gn6 (T : Tbl) (a b c d e f o : AObj) (l : Tbl) : (T ++ a :: b :: c :: d :: e :: f :: o :: l)[T.length + 6]? = some o := by simp
theorem gn7 (T : Tbl) (a b c d e f g o : AObj) (l : Tbl) : (T ++ a :: b :: c :: d :: e :: f :: g :: o :: l)[T.length + 7]? = some o := by simp
theorem gn8 (T : Tbl) (a b c d e f g h o : AObj) (l : Tbl) : (T ++ a :: b :: c :: d :: e :: f :: g :: h :: o :: l)[T.length + 8]? = some o := by simp
theorem vres (P : Program) (loc : List AV) (T : Tbl) :
 (∀ a b rs (K : AV -> Prop), resA P (a :: b :: rs) loc T K = rsA P loc T (a :: b :: rs) fun l => oneA l K) /\ (∀ K : List AV -> Prop, rsA P loc T [] K = K []) /\
 (∀ t r (K : List AV -> Prop), rsA P loc T (.tmp t :: r) K = rsA P loc T r fun l => K (loc.getD t .any :: l)) /\
 (∀ t ty r (K : List AV -> Prop), rsA P loc T (.cell t ty :: r) K = loadA P ty (loc.getD t .any) T fun v => rsA P loc T r fun l => K (v :: l)) /\
 (∀ a b l (K : AV -> Prop), oneA (a :: b :: l) K = K (.tu (a :: b :: l))) := ⟨fun _ _ _ _ => rfl, fun _ => rfl, fun _ _ _ => rfl, fun _ _ _ _ => rfl, fun _ _ _ _ => rfl⟩
theorem rep1 (l : List AV) : (List.replicate 1 l).flatten = l := by simp
theorem vone (a b : AV) (l : List AV) (K : AV -> Prop) : oneA (a :: b :: l) K = K (.tu (a :: b :: l)) := rfl
theorem bb2 : ((false || false) = false) /\ ((false || true) = true) /\ ((true || false) = true) /\ ((true || true) = true) /\ ((!false) = true) /\ ((!true) = false) /\ ((false == false) = true) /\ ((true == true) = true) /\ ((true == false) = false) /\ ((false == true) = false) := by decide
end Go.E
namespace Go.Proofs.YtglpcedoongagaaDoor
open Go.E Go.Proofs.Tryd
theorem Tryd.ty0 : tk prog 2 = .int .i64 /\ tsz prog 2 = 1 /\ tak prog 2 = some false /\ tk prog 3 = .int .i64 /\ tsz prog 3 = 1 /\ tzr prog 3 = some (.int .i64 0) /\ tak prog 3 = some false /\ tsz prog 4 = 1 /\ tak prog 4 = some false /\ tk prog 5 = .int .u8 /\ tsz prog 5 = 1 /\ tby prog 5 = 1 /\ tzr prog 5 = some (.int .u8 0) /\ tak prog 5 = some false /\ tk prog 9 = .string /\ tsz prog 9 = 1 /\ tby prog 9 = 16 /\ tzr prog 9 = some (.string .empty) /\ tak prog 9 = some false /\ tk prog 21 = .int .i32 /\ tk prog 22 = .slice 5 /\ tsz prog 22 = 1 /\ tak prog 22 = some false /\ tk prog 24 = .slice 27 /\ tsz prog 24 = 1 /\ tak prog 24 = some false /\ tk prog 25 = .slice 9 /\ tsz prog 25 = 1 /\ tak prog 25 = some false /\ tsz prog 27 = 5 /\ tby prog 27 = 80 /\ tzr prog 27 = some (.agg #[.int .u8 0, .int .i64 0, .string .empty, .slice none 0 0, .slice none 0 0]) /\ tak prog 27 = some true /\ tfo prog 27 0 = some 0 /\ tff prog 27 0 = some (0, 5) /\ tfo prog 27 1 = some 1 /\ tff prog 27 1 = some (1, 2) /\ tfo prog 27 2 = some 2 /\ tff prog 27 2 = some (2, 9) /\ tfo prog 27 3 = some 3 := by refine ⟨?_, ?_, ?_, ?_, ?_, ?_, ?_, ?_, ?_, ?_, ?_, ?_, ?_, ?_, ?_, ?_, ?_, ?_, ?_, ?_, ?_, ?_, ?_, ?_, ?_, ?_, ?_, ?_, ?_, ?_, ?_, ?_, ?_, ?_, ?_, ?_, ?_, ?_, ?_, ?_⟩ <;> kernel_rfl
theorem Tryd.ty1 : tff prog 27 3 = some (3, 24) /\ tfo prog 27 4 = some 4 /\ tff prog 27 4 = some (4, 25) /\ tst prog 27 = true /\ tk prog 28 = .int .i64 /\ tsz prog 28 = 1 /\ tzr prog 28 = some (.int .i64 0) /\ tak prog 28 = some false /\ tzr prog 45 = some (.agg #[.slice none 0 0]) /\ tfo prog 45 0 = some 0 /\ tff prog 45 0 = some (0, 22) /\ tst prog 45 = true /\ tk prog 62 = .map 9 3 /\ tk prog 78 = .array 256 4 /\ tsz prog 78 = 256 /\ tzr prog 78 = some (.agg #[.bool false, .bool false, .bool false, .bool false, .bool false, .bool false, .bool false, .bool false, .bool false, .bool false, .bool false, .bool false, .bool false, .bool false, .bool false, .bool false, .bool false, .bool false, .bool false, .bool false, .bool false, .bool false, .bool false, .bool false, .bool false, .bool false, .bool false, .bool false, .bool false, .bool false, .bool false, .bool false, .bool false, .bool false, .bool false, .bool false, .bool false, .bool false, .bool false, .bool false, .bool false, .bool false, .bool false, .bool false, .bool false, .bool false, .bool false, .bool false, .bool false, .bool false, .bool false, .bool false, .bool false, .bool false, .bool false, .bool false, .bool false, .bool false, .bool false, .bool false, .bool false, .bool false, .bool false, .bool false, .bool false, .bool false, .bool false, .bool false, .bool false, .bool false, .bool false, .bool false, .bool false, .bool false, .bool false, .bool false, .bool false, .bool false, .bool false, .bool false, .bool false, .bool false, .bool false, .bool false, .bool false, .bool false, .bool false, .bool false, .bool false, .bool false, .bool false, .bool false, .bool false, .bool false, .bool false, .bool false, .bool false, .bool false, .bool false, .bool false, .bool false, .bool false, .bool false, .bool false, .bool false, .bool false, .bool false, .bool false, .bool false, .bool false, .bool false, .bool false, .bool false, .bool false, .bool false, .bool false, .bool false, .bool false, .bool false, .bool false, .bool false, .bool false, .bool false, .bool false, .bool false, .bool false, .bool false, .bool false, .bool false, .bool false, .bool false, .bool false, .bool false, .bool false, .bool false, .bool false, .bool false, .bool false, .bool false, .bool false, .bool false, .bool false, .bool false, .bool false, .bool false, .bool false, .bool false, .bool false, .bool false, .bool false, .bool false, .bool false, .bool false, .bool false, .bool false, .bool false, .bool false, .bool false, .bool false, .bool false, .bool false, .bool false, .bool false, .bool false, .bool false, .bool false, .bool false, .bool false, .bool false, .bool false, .bool false, .bool false, .bool false, .bool false, .bool false, .bool false, .bool false, .bool false, .bool false, .bool false, .bool false, .bool false, .bool false, .bool false, .bool false, .bool false, .bool false, .bool false, .bool false, .bool false, .bool false, .bool false, .bool false, .bool false, .bool false, .bool false, .bool false, .bool false, .bool false, .bool false, .bool false, .bool false, .bool false, .bool false, .bool false, .bool false, .bool false, .bool false, .bool false, .bool false, .bool false, .bool false, .bool false, .bool false, .bool false, .bool false, .bool false, .bool false, .bool false, .bool false, .bool false, .bool false, .bool false, .bool false, .bool false, .bool false, .bool false, .bool false, .bool false, .bool false, .bool false, .bool false, .bool false, .bool false, .bool false, .bool false, .bool false, .bool false, .bool false, .bool false, .bool false, .bool false, .bool false, .bool false, .bool false, .bool false, .bool false, .bool false, .bool false, .bool false, .bool false, .bool false, .bool false, .bool false, .bool false, .bool false]) /\ tak prog 78 = some true /\ tk prog 84 = .int .u64 /\ tk prog 86 = .int .u64 /\ tsz prog 86 = 1 /\ tak prog 86 = some false /\ tk prog 88 = .array 256 5 /\ tsz prog 90 = 2 /\ tzr prog 90 = some (.agg #[.int .u8 0, .int .u8 0]) /\ tak prog 90 = some true /\ tfo prog 90 0 = some 0 /\ tfo prog 90 1 = some 1 /\ tk prog 91 = .array 16 90 /\ tk prog 94 = .int .u32 /\ tk prog 104 = .array 24 5 /\ tzr prog 104 = some (.agg #[.int .u8 0, .int .u8 0, .int .u8 0, .int .u8 0, .int .u8 0, .int .u8 0, .int .u8 0, .int .u8 0, .int .u8 0, .int .u8 0, .int .u8 0, .int .u8 0, .int .u8 0, .int .u8 0, .int .u8 0, .int .u8 0, .int .u8 0, .int .u8 0, .int .u8 0, .int .u8 0, .int .u8 0, .int .u8 0, .int .u8 0, .int .u8 0]) /\ tk prog 116 = .array 20 86 /\ tk prog 117 = .array 65 5 /\ tzr prog 117 = some (.agg #[.int .u8 0, .int .u8 0, .int .u8 0, .int .u8 0, .int .u8 0, .int .u8 0, .int .u8 0, .int .u8 0, .int .u8 0, .int .u8 0, .int .u8 0, .int .u8 0, .int .u8 0, .int .u8 0, .int .u8 0, .int .u8 0, .int .u8 0, .int .u8 0, .int .u8 0, .int .u8 0, .int .u8 0, .int .u8 0, .int .u8 0, .int .u8 0, .int .u8 0, .int .u8 0, .int .u8 0, .int .u8 0, .int .u8 0, .int .u8 0, .int .u8 0, .int .u8 0, .int .u8 0, .int .u8 0, .int .u8 0, .int .u8 0, .int .u8 0, .int .u8 0, .int .u8 0, .int .u8 0, .int .u8 0, .int .u8 0, .int .u8 0, .int .u8 0, .int .u8 0, .int .u8 0, .int .u8 0, .int .u8 0, .int .u8 0, .int .u8 0, .int .u8 0, .int .u8 0, .int .u8 0, .int .u8 0, .int .u8 0, .int .u8 0, .int .u8 0, .int .u8 0, .int .u8 0, .int .u8 0, .int .u8 0, .int .u8 0, .int .u8 0, .int .u8 0, .int .u8 0]) /\ tk prog 127 = .array 64 5 := by refine ⟨?_, ?_, ?_, ?_, ?_, ?_, ?_, ?_, ?_, ?_, ?_, ?_, ?_, ?_, ?_, ?_, ?_, ?_, ?_, ?_, ?_, ?_, ?_, ?_, ?_, ?_, ?_, ?_, ?_, ?_, ?_, ?_, ?_, ?_, ?_⟩ <;> kernel_rfl
abbrev ty := And.intro Tryd.ty0 Tryd.ty1
theorem Tryd.en : entered prog 6 = true /\ entered prog 7 = true /\ entered prog 8 = true /\ entered prog 9 = true /\ entered prog 10 = true /\ entered prog 11 = true /\ entered prog 14 = true /\ entered prog 16 = true /\ entered prog 17 = true /\ entered prog 18 = true /\ entered prog 19 = true /\ entered prog 20 = true /\ entered prog 21 = true /\ entered prog 22 = true /\ entered prog 24 = true /\ entered prog 25 = true /\ entered prog 26 = true /\ entered prog 27 = true /\ entered prog 28 = true /\ entered prog 29 = true /\ entered prog 30 = true /\ entered prog 31 = true /\ entered prog 32 = true /\ entered prog 33 = true /\ entered prog 34 = true /\ entered prog 35 = true /\ entered prog 36 = true /\ entered prog 37 = true /\ entered prog 38 = true /\ entered prog 39 = true /\ entered prog 40 = true /\ entered prog 41 = true /\ entered prog 42 = true /\ entered prog 43 = true /\ entered prog 44 = true /\ entered prog 46 = true /\ entered prog 47 = true /\ entered prog 49 = true /\ entered prog 50 = true /\ entered prog 51 = true /\ entered prog 52 = true /\ entered prog 54 = true /\ entered prog 55 = true /\ entered prog 56 = true /\ entered prog 57 = true /\ entered prog 59 = true /\ entered prog 62 = true /\ entered prog 64 = true /\ entered prog 65 = true /\ entered prog 66 = true /\ entered prog 72 = true /\ entered prog 73 = true /\ entered prog 74 = true /\ entered prog 75 = true /\ entered prog 82 = true /\ entered prog 83 = true /\ entered prog 84 = true /\ entered prog 85 = true /\ entered prog 86 = true /\ entered prog 89 = true := by refine ⟨?_, ?_, ?_, ?_, ?_, ?_, ?_, ?_, ?_, ?_, ?_, ?_, ?_, ?_, ?_, ?_, ?_, ?_, ?_, ?_, ?_, ?_, ?_, ?_, ?_, ?_, ?_, ?_, ?_, ?_, ?_, ?_, ?_, ?_, ?_, ?_, ?_, ?_, ?_, ?_, ?_, ?_, ?_, ?_, ?_, ?_, ?_, ?_, ?_, ?_, ?_, ?_, ?_, ?_, ?_, ?_, ?_, ?_, ?_, ?_⟩ <;> kernel_rfl
theorem Tryd.mixed : prog.follows .mixedOrders = true := by kernel_rfl
end Go.Proofs.YtglpcedoongagaaDoor
namespace Go.Proofs.YtglpcedoongagaaDoor
open Go.E Go.Proofs.YtglpcedoongagaaDoor.Tryd Go.Proofs.Tryd Go.J
def firL : List UInt8 := Pinned.utf8FirstZ.map u8
def accL : List UInt8 := [128, 191, 160, 191, 128, 159, 144, 191, 128, 143] ++ List.replicate 22 0
def powL : List AV := Lib.pow10Tab.map fun z => .p (.int .u64 z)
def dbjL : List UInt8 := [0, 1, 56, 2, 57, 49, 28, 3, 61, 58, 42, 50, 38, 29, 17, 4, 62, 47, 59, 36, 45, 43, 51, 22, 53, 39, 33, 30, 24, 18, 12, 5, 63, 55, 48, 27, 60, 41, 37, 16, 46, 35, 44, 21, 52, 32, 23, 11, 54, 26, 40, 15, 34, 20, 31, 10, 25, 14, 19, 9, 13, 8, 7, 6]
noncomputable def Tryd.G : Nat -> AV := fun g => if g = 0 then .vp (firL.map by8) 0 else if g = 1 then .vp (accL.map by8) 0 else if g = 4 then .vp powL 0
 else if g = 7 then .vp (dbjL.map by8) 0 else if g = 3 then .vp [.ic 121 .any] 0 else .p (.pointer (some ⟨g, 0, none⟩))
theorem Gpow : G 4 = .vp powL 0 := rfl
theorem Gdbj : G 7 = .vp (dbjL.map by8) 0 := rfl
theorem Ger : G 3 = .vp [.ic 121 .any] 0 := rfl
theorem Gfir : G 0 = .vp (firL.map by8) 0 := rfl
theorem Gacc : G 1 = .vp (accL.map by8) 0 := rfl
def Tryd.mp : Nat -> Bool := fun f => [18, 25, 16, 30, 56, 40, 26, 28, 29].contains f
theorem Tryd.mpf : Tryd.mp 18 = true /\ Tryd.mp 25 = true /\ Tryd.mp 16 = true /\ Tryd.mp 30 = true /\ Tryd.mp 56 = true /\ Tryd.mp 40 = true /\
 Tryd.mp 26 = true /\ Tryd.mp 28 = true /\ Tryd.mp 29 = true /\ Tryd.mp 27 = false /\ Tryd.mp 17 = false /\ Tryd.mp 39 = false /\ Tryd.mp 51 = false /\
 Tryd.mp 44 = false /\ Tryd.mp 57 = false /\ Tryd.mp 41 = false /\ Tryd.mp 42 = false /\ Tryd.mp 43 = false := by
 refine ⟨?_, ?_, ?_, ?_, ?_, ?_, ?_, ?_, ?_, ?_, ?_, ?_, ?_, ?_, ?_, ?_, ?_, ?_⟩ <;> rfl
def eno (e : Int) : AV := .ic 28 (.p (.int .i64 e))
theorem need_ok {T : Tbl} (so : Bool) : CallP prog G 18 [.p (.bool so)] T (fun v T' es => so = true /\ v = .tu [] /\ T' = T /\ es = []) (fun v T' es => so = false /\ v = eno 5 /\ T' = T /\ es = []) := by
 refine CallP.enterV Tryd.mp 2 func18 ntmps18 (congrArg Array.toList results18) rfl ⟨by simp, by simp⟩ (by kernel_rfl) (by kernel_rfl) ?_
 simp -dsimp +decide only [vb, Tryd.mpf, vr, ty, en, ↓reduceIte, Nat.reduceSub, Nat.reduceAdd, Nat.reduceMul, Nat.reduceLT, Int.reduceAdd, Int.reduceSub, Int.reduceToNat, ci]
 cases so with
 | true =>
   simp -dsimp +decide (disch := omega) only [vb, Tryd.mpf, vr, ty, en, ↓reduceIte, Nat.reduceSub, Nat.reduceAdd, Nat.reduceMul, Nat.reduceLT, Int.reduceAdd, Int.reduceSub, Int.reduceToNat, ci, vi, getO_i]
   exact Vw.done ⟨rfl, rfl, rfl, rfl⟩
 | false =>
   simp -dsimp +decide (disch := omega) only [vb, Tryd.mpf, vr, ty, en, ↓reduceIte, Nat.reduceSub, Nat.reduceAdd, Nat.reduceMul, Nat.reduceLT, Int.reduceAdd, Int.reduceSub, Int.reduceToNat, ci, vi, getO_i]
   exact Vw.done ⟨rfl, rfl, rfl, rfl⟩
end Go.Proofs.YtglpcedoongagaaDoor
namespace Go.E
open Go.RowKit
section
variable {P : Program} {G : Nat -> AV} {Z : Heap} {ρ : List BI} {T : Tbl} {w w' : World}
theorem St.below (h : St Z ρ T w) (hb : Below w.heap.size w w') : St Z ρ T w' /\ Ext Z ρ T w Z ρ T w' [] := by
 have hlive : ∀ (i : Nat) (o : AObj) (x : BI), T[i]? = some o -> ρ[i]? = some x -> ObjRel Z ρ w' x o := by
  intro i o x h1 h2
  by_cases hl : o.live = true
  . exact (h.obj i o x h1 h2).world fun b hx => hb.block b ((h.obj i o x h1 h2).blk_lt hl hx)
  . cases o <;> first | exact (hl rfl).elim | trivial
 refine ⟨⟨⟨fun b o hg => by rw [hb.block b (h.lt hg)]; exact h.of.1 b o hg, hb.os.trans h.of.2.1, hb.output.trans h.of.2.2⟩, h.len, hlive, h.apart⟩, ?_⟩
 exact ⟨Heap.le_refl _, fun i x hx _ => hx, fun i x o b ho hl hx hbk _ => ⟨hb.block b ((h.obj i o x ho hx).blk_lt hl hbk), o, ho, hl⟩⟩
theorem CallA.ofBelow {f : FuncId} {args : List AV} {K : AV -> Prop} (h : ∀ (Z : Heap) (ρ : List BI) (w : World) (vs : List Value), GOK G Z -> St Z ρ T w -> RelL Z ρ args vs -> Calls P f vs.toArray w fun e w' => ∃ v a, e = .returned v /\ Rel Z ρ a v /\ K a /\ Below w.heap.size w w') :
 CallA P G f args T fun v T' es => K v /\ T' = T /\ es = [] := by
 intro Z ρ w vs hG hs ha
 refine Calls.mono (h Z ρ w vs hG hs ha) ?_
 rintro e w' ⟨v, a, rfl, hr, hk, hb⟩
 obtain ⟨h1, h2⟩ := hs.below hb
 exact ⟨v, rfl, Z, ρ, T, [], a, h1, h2, hr, hk, rfl, rfl⟩
theorem gvar {g : Nat} {cs : List AV} (hG : GOK G Z) (hs : St Z ρ T w) (hg : G g = .vp cs 0) : ∃ (c : Array Value) (t : TypeId) (fr : Nat × Nat), w.heap[g]? = some (.cells c t fr) /\ ∀ (k : Nat) (a : AV), cs[k]? = some a -> ∃ v : Value, c[k]? = some v /\ Rel Z [] a v := by
 have h := hG g
 rw [hg] at h
 generalize hv : Value.pointer (some ⟨g, 0, none⟩) = v at h
 cases h with
 | @vp _ _ _ b o c t fr f hb hc hr =>
   simp only [Value.pointer.injEq, Option.some.injEq, Addr.mk.injEq] at hv
   obtain ⟨rfl, ho, -⟩ := hv
   have ho : o = 0 := by omega
   subst ho
   refine ⟨c, t, fr, hs.of.1 _ _ hb, fun k a hk => ?_⟩
   obtain ⟨hl, rfl⟩ := List.getElem?_eq_some_iff.1 hk
   exact ⟨f k, by have := hc k hl; rwa [Nat.zero_add] at this, hr k hl⟩
theorem gvar0 {g : Nat} {t : TypeId} (hG : GOK G Z) (hs : St Z ρ T w) (hg : G g = .vp [.ic t .any] 0) : ∃ pe, w.cell? ⟨g, 0, none⟩ = some (.iface t pe) := by
 obtain ⟨c, t', fr, h1, h2⟩ := gvar hG hs hg
 obtain ⟨v, h3, h4⟩ := h2 0 _ rfl
 cases h4 with
 | @ic _ _ _ x h => exact ⟨x, by simp [World.cell?, h1, h3]⟩
end
end Go.E
namespace Go.Proofs.YtglpcedoongagaaDoor
open Go.Proofs Go.E Go.Proofs.YtglpcedoongagaaDoor.Tryd Go.Proofs.Tryd
def shR : Go.Shelf.Ren := ⟨fun | 0 => 0 | 1 => 1 | 2 => 2 | 109 => 24 | 110 => 43 | 115 => 66 | 116 => 55 | 119 => 57 | 129 => 83 | 137 => 51 | 141 => 39 | 171 => 81 | 174 => 44 | 176 => 33 | 193 => 21 | 196 => 36 | 205 => 80 | 217 => 65 | 242 => 41 | 243 => 87 | 245 => 61 | 246 => 90 | 247 => 60 | 249 => 50 | 259 => 53 | 266 => 76 | 278 => 58 | 279 => 68 | 280 => 69 | 281 => 70 | 282 => 71 | 283 => 72 | 284 => 73 | 285 => 74 | 286 => 75 | 287 => 67 | 288 => 64 | 316 => 79 | 317 => 82 | 318 => 84 | 319 => 85 | 320 => 86 | 321 => 77 | 322 => 78 | 326 => 42 | 337 => 88 | 338 => 89 | 342 => 59 | 347 => 91 | 348 => 92 | 349 => 93 | 350 => 94 | 351 => 95 | 352 => 96 | 353 => 97 | 354 => 98 | 355 => 99 | 356 => 100 | 357 => 101 | 358 => 102 | 359 => 103 | 360 => 104 | 361 => 105 | 363 => 109 | 364 => 107 | 365 => 108 | 366 => 110 | 367 => 120 | n => n, fun | 0 => 0 | 1 => 1 | 2 => 2 | 3 => 3 | 4 => 4 | 5 => 5 | 6 => 6 | 7 => 7 | 8 => 8 | 9 => 9 | 10 => 10 | 11 => 11 | 12 => 12 | 13 => 13 | 14 => 14 | 15 => 15 | 16 => 16 | 17 => 17 | 18 => 18 | 19 => 19 | 20 => 20 | 21 => 21 | 31 => 25 | 32 => 53 | 33 => 71 | 37 => 22 | 38 => 35 | 40 => 93 | 41 => 56 | 46 => 84 | 47 => 119 | 51 => 94 | 52 => 124 | 53 => 86 | 54 => 105 | 55 => 83 | 57 => 65 | 58 => 66 | 63 => 96 | 69 => 110 | 74 => 72 | 75 => 73 | 80 => 55 | 81 => 133 | 83 => 103 | 84 => 125 | 85 => 74 | 86 => 75 | 89 => 60 | 99 => 37 | 101 => 50 | 104 => 61 | 105 => 69 | 108 => 113 | 111 => 118 | 114 => 114 | 115 => 77 | 119 => 88 | 126 => 68 | 127 => 120 | 128 => 95 | 131 => 63 | 136 => 87 | 137 => 89 | 138 => 90 | 139 => 91 | 143 => 121 | 144 => 122 | 145 => 123 | 164 => 141 | 167 => 97 | 168 => 100 | 169 => 101 | 170 => 102 | 171 => 104 | 172 => 106 | 173 => 107 | 174 => 108 | 175 => 98 | 176 => 99 | 177 => 85 | 209 => 111 | 210 => 112 | 211 => 115 | 212 => 116 | 213 => 117 | 214 => 109 | 217 => 70 | 232 => 126 | 233 => 127 | 238 => 128 | 239 => 129 | 240 => 130 | 241 => 131 | 242 => 132 | 243 => 134 | 244 => 135 | 245 => 136 | 246 => 137 | 247 => 138 | 248 => 139 | 249 => 140 | n => n, fun | 1 => 5 | 3 => 0 | 4 => 1 | 15 => 2 | 16 => 3 | 17 => 4 | 18 => 6 | 19 => 7 | n => n⟩
theorem sh_LaysCn174 : LaysC.n174 prog shR where
 mixed := (by kernel_rfl)
 f129 := func83.trans (congrArg some (by kernel_rfl))
 f171 := func81.trans (congrArg some (by kernel_rfl))
 f174 := func44.trans (congrArg some (by kernel_rfl))
 f205 := func80.trans (congrArg some (by kernel_rfl))
 f243 := func87.trans (congrArg some (by kernel_rfl))
 f245 := func61.trans (congrArg some (by kernel_rfl))
 f246 := func90.trans (congrArg some (by kernel_rfl))
 f247 := func60.trans (congrArg some (by kernel_rfl))
 f279 := func68.trans (congrArg some (by kernel_rfl))
 f280 := func69.trans (congrArg some (by kernel_rfl))
 f281 := func70.trans (congrArg some (by kernel_rfl))
 f282 := func71.trans (congrArg some (by kernel_rfl))
 f283 := func72.trans (congrArg some (by kernel_rfl))
 f284 := func73.trans (congrArg some (by kernel_rfl))
 f285 := func74.trans (congrArg some (by kernel_rfl))
 f286 := func75.trans (congrArg some (by kernel_rfl))
 f287 := func67.trans (congrArg some (by kernel_rfl))
 f316 := func79.trans (congrArg some (by kernel_rfl))
 f317 := func82.trans (congrArg some (by kernel_rfl))
 f318 := func84.trans (congrArg some (by kernel_rfl))
 f319 := func85.trans (congrArg some (by kernel_rfl))
 f320 := func86.trans (congrArg some (by kernel_rfl))
 f321 := func77.trans (congrArg some (by kernel_rfl))
 f322 := func78.trans (congrArg some (by kernel_rfl))
 f337 := func88.trans (congrArg some (by kernel_rfl))
 f338 := func89.trans (congrArg some (by kernel_rfl))
 t0 := (by kernel_rfl)
 a0 := fun _ => (by kernel_rfl)
 z0 := fun _ => (by kernel_rfl)
 v0 := fun _ => (by kernel_rfl)
 t2 := (by kernel_rfl)
 a2 := fun _ => (by kernel_rfl)
 z2 := fun _ => (by kernel_rfl)
 v2 := fun _ => (by kernel_rfl)
 t3 := (by kernel_rfl)
 a3 := fun _ => (by kernel_rfl)
 z3 := fun _ => (by kernel_rfl)
 v3 := fun _ => (by kernel_rfl)
 t4 := (by kernel_rfl)
 a4 := fun _ => (by kernel_rfl)
 z4 := fun _ => (by kernel_rfl)
 v4 := fun _ => (by kernel_rfl)
 t5 := (by kernel_rfl)
 a5 := fun _ => (by kernel_rfl)
 z5 := fun _ => (by kernel_rfl)
 v5 := fun _ => (by kernel_rfl)
 t9 := (by kernel_rfl)
 a9 := fun _ => (by kernel_rfl)
 z9 := fun _ => (by kernel_rfl)
 v9 := fun _ => (by kernel_rfl)
 t20 := (by kernel_rfl)
 a20 := fun _ => (by kernel_rfl)
 z20 := fun _ => (by kernel_rfl)
 v20 := fun _ => (by kernel_rfl)
 t21 := (by kernel_rfl)
 a21 := fun _ => (by kernel_rfl)
 z21 := fun _ => (by kernel_rfl)
 v21 := fun _ => (by kernel_rfl)
 t37 := (by kernel_rfl)
 a37 := fun _ => (by kernel_rfl)
 z37 := fun _ => (by kernel_rfl)
 v37 := fun _ => (by kernel_rfl)
 t46 := (by kernel_rfl)
 a46 := fun _ => (by kernel_rfl)
 z46 := fun _ => (by kernel_rfl)
 v46 := fun _ => (by kernel_rfl)
 t51 := (by kernel_rfl)
 a51 := fun _ => (by kernel_rfl)
 z51 := fun _ => (by kernel_rfl)
 v51 := fun _ => (by kernel_rfl)
 t53 := (by kernel_rfl)
 a53 := fun _ => (by kernel_rfl)
 z53 := fun _ => (by kernel_rfl)
 v53 := fun _ => (by kernel_rfl)
 t75 := (by kernel_rfl)
 a75 := fun _ => (by kernel_rfl)
 z75 := fun _ => (by kernel_rfl)
 v75 := fun _ => (by kernel_rfl)
 t85 := (by kernel_rfl)
 a85 := fun _ => (by kernel_rfl)
 z85 := fun _ => (by kernel_rfl)
 v85 := fun _ => (by kernel_rfl)
 t127 := (by kernel_rfl)
 a127 := fun _ => (by kernel_rfl)
 z127 := fun _ => (by kernel_rfl)
 v127 := fun _ => (by kernel_rfl)
 t143 := (by kernel_rfl)
 a143 := fun _ => (by kernel_rfl)
 z143 := fun _ => (by kernel_rfl)
 v143 := fun _ => (by kernel_rfl)
 t145 := (by kernel_rfl)
 a145 := fun _ => (by kernel_rfl)
 z145 := fun _ => (by kernel_rfl)
 v145 := fun _ => (by kernel_rfl)
 t167 := (by kernel_rfl)
 a167 := fun _ => (by kernel_rfl)
 z167 := fun _ => (by kernel_rfl)
 v167 := fun _ => (by kernel_rfl)
 t168 := (by kernel_rfl)
 a168 := fun _ => (by kernel_rfl)
 z168 := fun _ => (by kernel_rfl)
 v168 := fun _ => (by kernel_rfl)
 t171 := (by kernel_rfl)
 a171 := fun _ => (by kernel_rfl)
 z171 := fun _ => (by kernel_rfl)
 v171 := fun _ => (by kernel_rfl)
 t173 := (by kernel_rfl)
 a173 := fun _ => (by kernel_rfl)
 z173 := fun _ => (by kernel_rfl)
 v173 := fun _ => (by kernel_rfl)
 t175 := (by kernel_rfl)
 a175 := fun _ => (by kernel_rfl)
 z175 := fun _ => (by kernel_rfl)
 v175 := fun _ => (by kernel_rfl)
 t210 := (by kernel_rfl)
 a210 := fun _ => (by kernel_rfl)
 z210 := fun _ => (by kernel_rfl)
 v210 := fun _ => (by kernel_rfl)
 t212 := (by kernel_rfl)
 a212 := fun _ => (by kernel_rfl)
 z212 := fun _ => (by kernel_rfl)
 v212 := fun _ => (by kernel_rfl)
 t213 := (by kernel_rfl)
 a213 := fun _ => (by kernel_rfl)
 z213 := fun _ => (by kernel_rfl)
 t232 := (by kernel_rfl)
 a232 := fun _ => (by kernel_rfl)
 z232 := fun _ => (by kernel_rfl)
 v232 := fun _ => (by kernel_rfl)
 t233 := (by kernel_rfl)
 a233 := fun _ => (by kernel_rfl)
 z233 := fun _ => (by kernel_rfl)
 v233 := fun _ => (by kernel_rfl)
 g15 := (by kernel_rfl)
 g16 := (by kernel_rfl)
 g17 := (by kernel_rfl)
 g18 := (by kernel_rfl)
 g19 := (by kernel_rfl)
 t80 := (by kernel_rfl)
 a80 := fun _ => (by kernel_rfl)
 z80 := fun _ => (by kernel_rfl)
 v80 := fun _ => (by kernel_rfl)
 i0 := (by kernel_rfl)
 i2 := (by kernel_rfl)
 i3 := (by kernel_rfl)
 i4 := (by kernel_rfl)
 i5 := (by kernel_rfl)
 i9 := (by kernel_rfl)
 i20 := (by kernel_rfl)
 i21 := (by kernel_rfl)
 i37 := (by kernel_rfl)
 i46 := (by kernel_rfl)
 i51 := (by kernel_rfl)
 i53 := (by kernel_rfl)
 i75 := (by kernel_rfl)
 i80 := (by kernel_rfl)
 i85 := (by kernel_rfl)
 i127 := (by kernel_rfl)
 i143 := (by kernel_rfl)
 i145 := (by kernel_rfl)
 i167 := (by kernel_rfl)
 i168 := (by kernel_rfl)
 i171 := (by kernel_rfl)
 i173 := (by kernel_rfl)
 i175 := (by kernel_rfl)
 i210 := (by kernel_rfl)
 i212 := (by kernel_rfl)
 i232 := (by kernel_rfl)
 i233 := (by kernel_rfl)
 m15 := (by kernel_rfl)
 m16 := (by kernel_rfl)
 m17 := (by kernel_rfl)
 m18 := (by kernel_rfl)
 m19 := (by kernel_rfl)
 c0 := (by kernel_rfl)
 c2 := (by kernel_rfl)
 c3 := (by kernel_rfl)
 c4 := (by kernel_rfl)
 c5 := (by kernel_rfl)
 c9 := (by kernel_rfl)
 c20 := (by kernel_rfl)
 c21 := (by kernel_rfl)
 c37 := (by kernel_rfl)
 c46 := (by kernel_rfl)
 c51 := (by kernel_rfl)
 c53 := (by kernel_rfl)
 c75 := (by kernel_rfl)
 c80 := (by kernel_rfl)
 c85 := (by kernel_rfl)
 c127 := (by kernel_rfl)
 c143 := (by kernel_rfl)
 c145 := (by kernel_rfl)
 c167 := (by kernel_rfl)
 c168 := (by kernel_rfl)
 c171 := (by kernel_rfl)
 c173 := (by kernel_rfl)
 c175 := (by kernel_rfl)
 c210 := (by kernel_rfl)
 c212 := (by kernel_rfl)
 c213 := (by kernel_rfl)
 c232 := (by kernel_rfl)
 c233 := (by kernel_rfl)
theorem sh_Laysn196 : Lays.n196 prog shR where
 mixed := (by kernel_rfl)
 f196 := func36.trans (congrArg some (by kernel_rfl))
 f259 := func53.trans (congrArg some (by kernel_rfl))
 t0 := (by kernel_rfl)
 a0 := fun _ => (by kernel_rfl)
 z0 := fun _ => (by kernel_rfl)
 v0 := fun _ => (by kernel_rfl)
 t3 := (by kernel_rfl)
 a3 := fun _ => (by kernel_rfl)
 z3 := fun _ => (by kernel_rfl)
 v3 := fun _ => (by kernel_rfl)
 t4 := (by kernel_rfl)
 a4 := fun _ => (by kernel_rfl)
 z4 := fun _ => (by kernel_rfl)
 v4 := fun _ => (by kernel_rfl)
 t5 := (by kernel_rfl)
 a5 := fun _ => (by kernel_rfl)
 z5 := fun _ => (by kernel_rfl)
 v5 := fun _ => (by kernel_rfl)
 t9 := (by kernel_rfl)
 a9 := fun _ => (by kernel_rfl)
 z9 := fun _ => (by kernel_rfl)
 v9 := fun _ => (by kernel_rfl)
 t12 := (by kernel_rfl)
 a12 := fun _ => (by kernel_rfl)
 z12 := fun _ => (by kernel_rfl)
 v12 := fun _ => (by kernel_rfl)
 t46 := (by kernel_rfl)
 a46 := fun _ => (by kernel_rfl)
 z46 := fun _ => (by kernel_rfl)
 v46 := fun _ => (by kernel_rfl)
 t53 := (by kernel_rfl)
 a53 := fun _ => (by kernel_rfl)
 z53 := fun _ => (by kernel_rfl)
 v53 := fun _ => (by kernel_rfl)
 t119 := (by kernel_rfl)
 a119 := fun _ => (by kernel_rfl)
 z119 := fun _ => (by kernel_rfl)
 t138 := (by kernel_rfl)
 a138 := fun _ => (by kernel_rfl)
 z138 := fun _ => (by kernel_rfl)
 v138 := fun _ => (by kernel_rfl)
 t139 := (by kernel_rfl)
 a139 := fun _ => (by kernel_rfl)
 z139 := fun _ => (by kernel_rfl)
 v139 := fun _ => (by kernel_rfl)
 g3 := (by kernel_rfl)
 g4 := (by kernel_rfl)
end Go.Proofs.YtglpcedoongagaaDoor
namespace Go.Proofs.YtglpcedoongagaaDoor
open Go.E Go.Proofs.YtglpcedoongagaaDoor.Tryd Go.Proofs.Tryd Go.J
theorem rec1_in {n i : Nat} (h : i < n) (b : Bool) (E : Eff) : rec1 n i b E = (i, b) :: E := if_pos h
def bl (l : List UInt8) : AV := .vs (l.map by8) l.length
theorem bl_wo (q : Nat -> Bool) (l : List UInt8) : (bl l).wo q = bl l := by rw [bl, AV.wo]
theorem bl_Bs (T : Tbl) (l : List UInt8) : Bs T (bl l) l := Bs.vs l
theorem vbl : (∀ l, (bl l).known = some [bl l]) /\ (∀ l r, ones (bl l :: r) = ones r) /\ (∀ (l : List UInt8) (T : Tbl) (s : Nat) (K : AV -> Prop), lnA (.slice s) (bl l) T K = K (.p (.int .i64 l.length))) /\ (∀ (q : Nat -> Bool) l, (bl l).wo q = bl l) /\ (∀ i cs l, (bl l).pub i cs = bl l) /\
 (∀ (l : List UInt8) (T : Tbl) (i j : Nat) (K : AV -> Prop), pcA 1 (bl l) i j T K = ((i <= j /\ j <= l.length) /\ K (bl ((l.drop i).take (j - i))))) /\ (∀ (l : List UInt8) (KN : Nat -> Prop), lenA (bl l) KN = KN l.length) /\
 (∀ (l : List UInt8) (T : Tbl) (KC : List AV -> Nat -> Prop), srcA 1 (bl l) T KC = KC (l.map by8) l.length) /\
 (∀ (l : List UInt8) (T : Tbl) (ik : IntKind) (z : Int) (K : AV -> Prop), ixA 1 (bl l) (.p (.int ik z)) T K = ((0 <= z /\ z < l.length) /\ K ((bl l).pl z.toNat))) /\
 (∀ (l : List UInt8) (T : Tbl) (k : Nat) (K : AV -> Prop), k < l.length -> loadA prog 5 ((bl l).pl k) T K = getO (l.map by8)[k]? K) := by
 refine ⟨fun l => rfl, fun l r => rfl, fun l T s K => (Sl.rules (bl_Bs T l) (by decide)).2.1 s K, fun q l => bl_wo q l, fun i cs l => by rw [bl, AV.pub], fun l T i j K => ?_, fun l KN => (Sl.rules (bl_Bs [] l) (by decide)).2.2.1 KN, fun l T KC => (Sl.rules (bl_Bs T l) (by decide)).2.2.2.2.2.2.1 KC, fun l T ik z K => ?_, fun l T k K hk => ?_⟩
 . rw [(Sl.rules (bl_Bs T l) (by decide)).2.2.2.2.1]
   refine propext (and_congr_right fun h => ?_)
   have : (bl l).sub 1 i j = bl ((l.drop i).take (j - i)) := by
    have hl : ((l.drop i).take (j - i)).length = j - i := by rw [List.length_take, List.length_drop]; omega
    rw [bl, bl, hl, AV.sub]
    simp only [Nat.mul_one, List.map_take, List.map_drop]
   rw [this]
 . rw [(Sl.rules (bl_Bs T l) (by decide)).2.2.2.2.2.2.2.2.1, Nat.mul_one]
 . exact (Sl.loads (bl_Bs T l) (P := prog) (t := 5) (by (simp -dsimp +decide only [vsk, vr, ty, en, ↓reduceIte, Nat.reduceSub, Nat.reduceAdd, Nat.reduceMul, Nat.reduceLT, Int.reduceAdd, Int.reduceSub, Int.reduceToNat, ci]))).2 k K (by omega)
theorem Vw.weak {G : Nat -> AV} {T0 T : Tbl} {E : Eff} {K : AV -> Tbl -> Eff -> Prop} {v u : AV} (hr : ∀ Z ρ x, Rel Z ρ v x -> Rel Z ρ u x) (h : Vw G T0 K u T E) : Vw G T0 K v T E :=
 fun Z0 ρ0 w0 Z ρ w x hs hf hx => h Z0 ρ0 w0 Z ρ w x hs hf (hr _ _ _ hx)
theorem nil_bl {Z : Heap} {ρ : List BI} {x : Value} (h : Rel Z ρ (.p (.slice none 0 0)) x) : Rel Z ρ (bl []) x := by
 have := h.p_inv; subst this
 exact .vs0 (.inl rfl) (Nat.le_refl _)
def cut4 : List UInt8 := [32, 9, 10, 13]
def bset : Nat -> List Bool
 | 0 => List.replicate 256 false
 | k + 1 => (bset k).set ((cut4.getD k 0).toNat) true
def aset (k : Nat) : List AV := (bset k).map fun b => AV.p (.bool b)
theorem bset_len : ∀ k, (bset k).length = 256
 | 0 => by rw [bset, List.length_replicate]
 | k + 1 => by rw [bset, List.length_set, bset_len k]
theorem aset_len (k : Nat) : (aset k).length = 256 := by rw [aset, List.length_map, bset_len]
theorem aset_wo (q : Nat -> Bool) (k : Nat) : (aset k).map (AV.wo q) = aset k := by
 rw [aset, List.map_map]; exact List.map_congr_left fun b _ => by rw [Function.comp, AV.wo]
theorem aset_one (k : Nat) : ones (aset k) = true := by
 unfold ones aset
 rw [List.all_eq_true]
 intro a ha
 obtain ⟨b, _, rfl⟩ := List.mem_map.1 ha
 rfl
theorem aset_get (x : UInt8) : (aset 4)[x.toNat]? = some (.p (.bool (isB x))) := by
 have e : bset 4 = (List.range 256).map fun i => isB (u8 i) := by decide +kernel
 rw [aset, e, List.getElem?_map, List.getElem?_map, List.getElem?_range x.toNat_lt, Option.map_some, Option.map_some, u8_eq rfl]
theorem aset_set {k : Nat} {x : UInt8} (h : cut4[k]? = some x) : (aset k).set x.toNat (.p (.bool true)) = aset (k + 1) := by
 rw [aset, aset, bset, List.map_set, List.getD_eq_getElem?_getD, h]; rfl
theorem aset_z : List.replicate 256 (AV.p (.bool false)) = aset 0 := by rw [aset, bset, List.map_replicate]
theorem cut4_lt {k : Nat} {x : UInt8} (h : cut4[k]? = some x) : x.toNat < 128 := by
 have := List.mem_of_getElem? h
 have h4 : ∀ y ∈ cut4, y.toNat < 128 := by decide
 exact h4 x this
theorem aset_ok {T : Tbl} : CallA prog G 46 [str cut4] T fun v T' es => v = .tu [.ag (aset 4), .p (.bool true)] /\ T' = T /\ es = [] := by
 refine CallA.wfs fun wf => ?_
 have wt := wf.t
 have es : str cut4 = .p (.string (ba cut4)) := rfl
 rw [es]
 refine CallA.eV 6 func46 ntmps46 results46 ?_
 simp -dsimp +decide only [vsk, vr, ty, en, ↓reduceIte, Nat.reduceSub, Nat.reduceAdd, Nat.reduceMul, Nat.reduceLT, Int.reduceAdd, Int.reduceSub, Int.reduceToNat, ci]
 refine SemA.loopS (fun k : Nat => [(0, .p (.string (ba cut4))), (2, .ptr T.length 0), (4, wint (k : Int))]) (fun k => T ++ [.cells 78 (aset k)]) (fun k => k <= 4) (fun k => 4 - k) 0 [] 0
  (fun _ : Unit => [(2, .ptr T.length 0)]) (fun _ => T ++ [.cells 78 (aset 4)]) (fun _ => True) (Nat.zero_le _) ⟨rfl, rfl, rfl, rfl⟩ ?_ (by simp) ?_ ?_
 . rw [<- aset_z]; rfl
 . rintro k g hk
   refine SemA.o ?_
   simp -dsimp +decide (disch := omega) only [vsk, vr, ty, en, ↓reduceIte, Nat.reduceSub, Nat.reduceAdd, Nat.reduceMul, Nat.reduceLT, Int.reduceAdd, Int.reduceSub, Int.reduceToNat, ci, vi, getO_i, ba_size]
   have h4 : cut4.length = 4 := rfl
   refine CondP.dec (fun hc => ?_) (fun hc => ?_)
   rotate_left
   . have e : k = 4 := by omega
     subst e
     simp -dsimp +decide (disch := omega) only [vsk, vr, ty, en, ↓reduceIte, Nat.reduceSub, Nat.reduceAdd, Nat.reduceMul, Nat.reduceLT, Int.reduceAdd, Int.reduceSub, Int.reduceToNat, ci, vi, getO_i, vt]
     exact ⟨(), SeeL.done ⟨rfl, ⟨rfl, rfl⟩, rfl, by simp⟩⟩
   obtain ⟨x, hx⟩ : ∃ x, cut4[k]? = some x := ⟨cut4[k]'(by omega), by simp⟩
   have hx1 := cut4_lt hx
   have hlt : (128 <= (x.toNat : Int)) = False := eq_false (by omega)
   have hwk : IntKind.i64.wrap ((k : Int) + 1) = ((k + 1 : Nat) : Int) := IntWalk.i64_in _ (by omega)
   have hg := fun l => gn0 T (.cells 78 (aset k)) l
   have hlen := aset_len k
   simp -dsimp +decide (disch := omega) only [vsk, vr, ty, en, ↓reduceIte, Nat.reduceSub, Nat.reduceAdd, Nat.reduceMul, Nat.reduceLT, Int.reduceAdd, Int.reduceSub, Int.reduceToNat, ci, vi, getO_i, vt, ba_get, hx, hlt, bb2, hg, hlen, hwk, Int.toNat_natCast]
   refine ⟨by omega, by omega, by omega, k + 1, ⟨by omega, by omega⟩, ?_⟩
   rw [aset_set hx]
   exact SeeL.done ⟨rfl, ⟨rfl, rfl, rfl, rfl⟩, rfl, by simp⟩
 . rintro _ g tmp -
   have hg := fun l => gn0 T (.cells 78 (aset 4)) l
   have hlen := aset_len 4
   have ht : List.take 256 (aset 4) = aset 4 := List.take_of_length_le (by rw [hlen]; decide)
   have hw : wrA (aset 4) 0 (List.take 256 (aset 4)) = aset 4 := by rw [ht]; exact wrA_all (cs := aset 4) (vs := aset 4) rfl
   simp -dsimp +decide (disch := omega) only [vsk, vr, ty, en, ↓reduceIte, Nat.reduceSub, Nat.reduceAdd, Nat.reduceMul, Nat.reduceLT, Int.reduceAdd, Int.reduceSub, Int.reduceToNat, ci, vi, getO_i, vt, vres, vone, hg, hlen, hw, aset_one]
   rw [ht]
   exact Vw.cut ⟨by simp only [AV.wo, AV.woL, AV.woL_eq, aset_wo], rfl, rfl⟩
theorem has_ok {T : Tbl} {j : Nat} {x : UInt8} (hj : T[j]? = some (.cells 78 (aset 4))) : CallA prog G 62 [.ptr j 0, by8 x] T fun v T' es => v = .p (.bool (isB x)) /\ T' = T /\ es = [] := by
 refine CallA.eV 5 func62 ntmps62 results62 ?_
 simp -dsimp +decide only [vsk, vr, ty, en, ↓reduceIte, Nat.reduceSub, Nat.reduceAdd, Nat.reduceMul, Nat.reduceLT, Int.reduceAdd, Int.reduceSub, Int.reduceToNat, ci]
 have hx := x.toNat_lt
 have hget := aset_get x
 simp -dsimp +decide (disch := omega) only [vsk, vr, ty, en, ↓reduceIte, Nat.reduceSub, Nat.reduceAdd, Nat.reduceMul, Nat.reduceLT, Int.reduceAdd, Int.reduceSub, Int.reduceToNat, ci, vi, getO_i, vt, hj, hget, Int.toNat_natCast]
 exact ⟨by omega, Vw.done ⟨rfl, rfl, rfl⟩⟩
theorem blk_cons (x : UInt8) (r : B) : blk (x :: r) = if isB x then blk r else x :: r := rfl
theorem tla_ok {T : Tbl} {j : Nat} {l : List UInt8} (hl : l.length <= 140737488355328) (hj : T[j]? = some (.cells 78 (aset 4))) : CallA prog G 47 [bl l, .ptr j 0] T fun v T' es => v = bl (blk l) /\ T' = T /\ es = [] := by
 refine CallA.eV 5 func47 ntmps47 results47 ?_
 simp -dsimp +decide only [vsk, vr, ty, en, ↓reduceIte, Nat.reduceSub, Nat.reduceAdd, Nat.reduceMul, Nat.reduceLT, Int.reduceAdd, Int.reduceSub, Int.reduceToNat, ci]
 refine SemA.loopS (fun m : List UInt8 => [(0, bl m), (1, .ptr j 0)]) (fun _ => T) (fun m => blk m = blk l /\ m.length <= l.length) (fun m => m.length) l [] 0
  (fun m : List UInt8 => [(0, bl m)]) (fun _ => T) (fun m => m = blk l) ⟨rfl, Nat.le_refl _⟩ ⟨rfl, rfl, rfl⟩ rfl (by simp) ?_ ?_
 . rintro m g ⟨hm, hml⟩
   refine SemA.o ?_
   cases m with
   | nil =>
     simp -dsimp +decide (disch := omega) only [vsk, vr, ty, en, ↓reduceIte, Nat.reduceSub, Nat.reduceAdd, Nat.reduceMul, Nat.reduceLT, Int.reduceAdd, Int.reduceSub, Int.reduceToNat, ci, vi, getO_i, vt, vbl]
     exact ⟨[], hm, SeeL.done ⟨rfl, ⟨rfl, rfl⟩, rfl, by simp⟩⟩
   | cons x r =>
     have h0 : (0 < (((x :: r).length : Nat) : Int)) = True := eq_true (by simp)
     have hg : ((x :: r).map by8)[0]? = some (by8 x) := rfl
     have hl0 : 0 < (x :: r).length := by simp
     have hd : ((x :: r).drop 1).take ((x :: r).length - 1) = r := by simp
     simp -dsimp +decide (disch := omega) only [vsk, vr, ty, en, ↓reduceIte, Nat.reduceSub, Nat.reduceAdd, Nat.reduceMul, Nat.reduceLT, Int.reduceAdd, Int.reduceSub, Int.reduceToNat, ci, vi, getO_i, vt, vbl, h0, hg]
     refine (has_ok hj).det' ?_
     cases hb : isB x with
     | true =>
       simp -dsimp +decide (disch := omega) only [vsk, vr, ty, en, ↓reduceIte, Nat.reduceSub, Nat.reduceAdd, Nat.reduceMul, Nat.reduceLT, Int.reduceAdd, Int.reduceSub, Int.reduceToNat, ci, vi, getO_i, vt, vbl, bb2, hd]
       refine ⟨⟨by simp, Nat.le_refl _⟩, r, ⟨⟨by rw [<- hm, blk_cons, hb]; rfl, by simp at hml; omega⟩, by simp⟩, SeeL.done ⟨rfl, ⟨rfl, rfl, rfl⟩, rfl, by simp⟩⟩
     | false =>
       simp -dsimp +decide (disch := omega) only [vsk, vr, ty, en, ↓reduceIte, Nat.reduceSub, Nat.reduceAdd, Nat.reduceMul, Nat.reduceLT, Int.reduceAdd, Int.reduceSub, Int.reduceToNat, ci, vi, getO_i, vt, vbl, bb2]
       exact ⟨x :: r, by rw [<- hm, blk_cons, hb]; rfl, SeeL.done ⟨rfl, ⟨rfl, rfl⟩, rfl, by simp⟩⟩
 . rintro m g tmp hm
   subst hm
   simp -dsimp +decide (disch := omega) only [vsk, vr, ty, en, ↓reduceIte, Nat.reduceSub, Nat.reduceAdd, Nat.reduceMul, Nat.reduceLT, Int.reduceAdd, Int.reduceSub, Int.reduceToNat, ci, vi, getO_i, vt, vbl]
   refine CondP.dec (fun hc => ?_) (fun hc => ?_)
   . have e : blk l = [] := List.length_eq_zero_iff.1 (by omega)
     simp -dsimp +decide (disch := omega) only [vsk, vr, ty, en, ↓reduceIte, Nat.reduceSub, Nat.reduceAdd, Nat.reduceMul, Nat.reduceLT, Int.reduceAdd, Int.reduceSub, Int.reduceToNat, ci, vi, getO_i, vt]
     rw [e]
     refine Vw.weak (u := bl []) (fun _ _ _ h => nil_bl h) ?_
     exact Vw.done ⟨rfl, rfl, rfl⟩
   . simp -dsimp +decide (disch := omega) only [vsk, vr, ty, en, ↓reduceIte, Nat.reduceSub, Nat.reduceAdd, Nat.reduceMul, Nat.reduceLT, Int.reduceAdd, Int.reduceSub, Int.reduceToNat, ci, vi, getO_i, vt]
     exact Vw.done ⟨rfl, rfl, rfl⟩
theorem trim_ok {T : Tbl} {l : List UInt8} (hl : l.length <= 140737488355328) : CallA prog G 31 [bl l, str cut4] T fun v T' es => v = bl (blk l) /\ T' = T /\ es = [] := by
 refine CallA.wfs fun wf => ?_
 have wt := wf.t
 rw [show str cut4 = .p (.string (ba cut4)) from rfl]
 refine CallA.eV 7 func31 ntmps31 results31 ?_
 simp -dsimp +decide only [vsk, vr, ty, en, ↓reduceIte, Nat.reduceSub, Nat.reduceAdd, Nat.reduceMul, Nat.reduceLT, Int.reduceAdd, Int.reduceSub, Int.reduceToNat, ci]
 simp -dsimp +decide (disch := omega) only [vsk, vr, ty, en, ↓reduceIte, Nat.reduceSub, Nat.reduceAdd, Nat.reduceMul, Nat.reduceLT, Int.reduceAdd, Int.reduceSub, Int.reduceToNat, ci, vi, getO_i, vt, vbl]
 refine CondP.dec (fun hc => ?_) (fun hc => ?_)
 . have e : l = [] := List.length_eq_zero_iff.1 (by omega)
   subst e
   simp -dsimp +decide (disch := omega) only [vsk, vr, ty, en, ↓reduceIte, Nat.reduceSub, Nat.reduceAdd, Nat.reduceMul, Nat.reduceLT, Int.reduceAdd, Int.reduceSub, Int.reduceToNat, ci, vi, getO_i, vt]
   exact Vw.weak (u := bl []) (fun _ _ _ h => nil_bl h) (Vw.done ⟨rfl, rfl, rfl⟩)
 have h4 : cut4.length = 4 := rfl
 have he : (decide (ba cut4 = ba [])) = false := by rw [decide_eq_false_iff_not, ba_inj]; decide
 simp -dsimp +decide (disch := omega) only [vsk, vr, ty, en, ↓reduceIte, Nat.reduceSub, Nat.reduceAdd, Nat.reduceMul, Nat.reduceLT, Int.reduceAdd, Int.reduceSub, Int.reduceToNat, ci, vi, getO_i, vt, vbl, vstr, ba_size, h4, he, bb2]
 refine aset_ok.det' ?_
 have hlen := aset_len 4
 simp -dsimp +decide (disch := omega) only [vsk, vr, ty, en, ↓reduceIte, Nat.reduceSub, Nat.reduceAdd, Nat.reduceMul, Nat.reduceLT, Int.reduceAdd, Int.reduceSub, Int.reduceToNat, ci, vi, getO_i, vt, vbl, aset_one, hlen]
 rw [wrA_all]
 rotate_left
 . rw [hlen]; rfl
 refine (tla_ok hl (gn0 T _ _)).det' ?_
 simp -dsimp +decide (disch := omega) only [vsk, vr, ty, en, ↓reduceIte, Nat.reduceSub, Nat.reduceAdd, Nat.reduceMul, Nat.reduceLT, Int.reduceAdd, Int.reduceSub, Int.reduceToNat, ci, vi, getO_i, vt, vbl]
 exact Vw.cut ⟨bl_wo _ _, rfl, rfl⟩
theorem blanks_ok {T : Tbl} {i : Nat} {l : List UInt8} (hl : l.length <= 140737488355328) (hi : T[i]? = some (.cells 45 [bl l])) : CallA prog G 17 [.ptr i 0] T fun v T' es => v = .tu [] /\ T' = T.set i (.cells 45 [bl (blk l)]) /\ es = [(i, false)] := by
 refine CallA.wfs fun wf => ?_
 have wt := wf.t
 refine CallA.eV 2 func17 ntmps17 results17 ?_
 simp -dsimp +decide only [vsk, vr, ty, en, ↓reduceIte, Nat.reduceSub, Nat.reduceAdd, Nat.reduceMul, Nat.reduceLT, Int.reduceAdd, Int.reduceSub, Int.reduceToNat, ci]
 have hil := (List.getElem?_eq_some_iff.1 hi).1
 simp -dsimp +decide (disch := omega) only [vsk, vr, ty, en, ↓reduceIte, Nat.reduceSub, Nat.reduceAdd, Nat.reduceMul, Nat.reduceLT, Int.reduceAdd, Int.reduceSub, Int.reduceToNat, ci, vi, getO_i, vt, vbl, hi]
 refine (trim_ok hl).det' ?_
 simp -dsimp +decide (disch := omega) only [vsk, vr, ty, en, ↓reduceIte, Nat.reduceSub, Nat.reduceAdd, Nat.reduceMul, Nat.reduceLT, Int.reduceAdd, Int.reduceSub, Int.reduceToNat, ci, vi, getO_i, vt, vbl, hi]
 exact ⟨rfl, by rw [rec1_in hil]; exact Vw.done ⟨rfl, rfl, rfl⟩⟩
end Go.Proofs.YtglpcedoongagaaDoor
namespace Go.Proofs.YtglpcedoongagaaDoor
open Go.E Go.Proofs.YtglpcedoongagaaDoor.Tryd Go.Proofs.Tryd Go.J
theorem set_self {T : Tbl} {i : Nat} {o : AObj} (h : T[i]? = some o) : T.set i o = T := by
 obtain ⟨hl, rfl⟩ := List.getElem?_eq_some_iff.1 h
 exact List.set_getElem_self hl
def rdr (l : List UInt8) : AObj := .cells 45 [bl l]
theorem is_ok {T : Tbl} {i : Nat} {l : List UInt8} {c : UInt8} (hi : T[i]? = some (rdr l)) : CallA prog G 27 [.ptr i 0, by8 c] T fun v T' es => v = .p (.bool (decide (l.head? = some c))) /\ T' = T.set i (rdr (if l.head? = some c then l.tail else l)) /\ es = [(i, false)] := by
 refine CallA.wfs fun wf => ?_
 have wt := wf.t
 have hil := (List.getElem?_eq_some_iff.1 hi).1
 rw [rdr] at hi
 refine CallA.eV 6 func27 ntmps27 results27 ?_
 simp -dsimp +decide only [vb, Tryd.mpf, vr, ty, en, ↓reduceIte, Nat.reduceSub, Nat.reduceAdd, Nat.reduceMul, Nat.reduceLT, Int.reduceAdd, Int.reduceSub, Int.reduceToNat, ci]
 cases l with
 | nil =>
   simp -dsimp +decide (disch := omega) only [vb, Tryd.mpf, vr, ty, en, ↓reduceIte, Nat.reduceSub, Nat.reduceAdd, Nat.reduceMul, Nat.reduceLT, Int.reduceAdd, Int.reduceSub, Int.reduceToNat, ci, vi, getO_i, vt, vbl, hi, bb2]
   refine Vw.eff (E' := [(i, false)]) (by simp) (Vw.done ⟨rfl, ?_, rfl⟩)
   rw [if_neg (by simp)]; exact (set_self hi).symm
 | cons x r =>
   have h0 : (0 < (((x :: r).length : Nat) : Int)) = True := eq_true (by simp)
   have hg : ((x :: r).map by8)[0]? = some (by8 x) := rfl
   have hl0 : 0 < (x :: r).length := by simp
   have hd : ((x :: r).drop 1).take ((x :: r).length - 1) = r := by simp
   simp -dsimp +decide (disch := omega) only [vb, Tryd.mpf, vr, ty, en, ↓reduceIte, Nat.reduceSub, Nat.reduceAdd, Nat.reduceMul, Nat.reduceLT, Int.reduceAdd, Int.reduceSub, Int.reduceToNat, ci, vi, getO_i, vt, vbl, hi, h0, hg, bb2]
   refine CondP.dec (fun hc => ?_) (fun hc => ?_)
   . have e : x = c := UInt8.toNat_inj.1 (by omega)
     subst e
     have h1 : 1 <= (x :: r).length := by simp
     simp -dsimp +decide (disch := omega) only [vb, Tryd.mpf, vr, ty, en, ↓reduceIte, Nat.reduceSub, Nat.reduceAdd, Nat.reduceMul, Nat.reduceLT, Int.reduceAdd, Int.reduceSub, Int.reduceToNat, ci, vi, getO_i, vt, vbl, hi, hd]
     refine ⟨⟨h1, Nat.le_refl _⟩, rfl, ?_⟩
     rw [rec1_in hil]
     exact Vw.done ⟨by rw [List.head?_cons, decide_eq_true rfl], by rw [List.head?_cons, if_pos rfl]; rfl, rfl⟩
   . have e : ¬ (x :: r).head? = some c := fun e => hc (by cases e; rfl)
     simp -dsimp +decide (disch := omega) only [vb, Tryd.mpf, vr, ty, en, ↓reduceIte, Nat.reduceSub, Nat.reduceAdd, Nat.reduceMul, Nat.reduceLT, Int.reduceAdd, Int.reduceSub, Int.reduceToNat, ci, vi, getO_i, vt]
     refine Vw.eff (E' := [(i, false)]) (by simp) (Vw.done ⟨by rw [decide_eq_false e, decide_eq_false hc], ?_, rfl⟩)
     rw [if_neg e]; exact (set_self hi).symm
theorem bytes8 : ∀ l : List UInt8, bytesA (l.map by8) = some l
 | [] => rfl
 | x :: r => by
   show (bytesA (r.map by8)).map _ = _
   rw [bytes8 r, Option.map_some]
   congr 2
   simp
theorem vba (a b : List UInt8) : decide ((⟨a.toArray⟩ : ByteArray) = ⟨b.toArray⟩) = decide (a = b) := decide_eq_decide.2 (ba_inj (a := a) (b := b))
theorem beq_ok {T : Tbl} {a b : List UInt8} : CallA prog G 66 [bl a, bl b] T fun v T' es => v = .p (.bool (decide (a = b))) /\ T' = T /\ es = [] := by
 refine CallA.eV 5 func66 ntmps66 results66 ?_
 simp -dsimp +decide only [vb, Tryd.mpf, vr, ty, en, ↓reduceIte, Nat.reduceSub, Nat.reduceAdd, Nat.reduceMul, Nat.reduceLT, Int.reduceAdd, Int.reduceSub, Int.reduceToNat, ci]
 simp -dsimp +decide (disch := omega) only [vb, Tryd.mpf, vr, ty, en, ↓reduceIte, Nat.reduceSub, Nat.reduceAdd, Nat.reduceMul, Nat.reduceLT, Int.reduceAdd, Int.reduceSub, Int.reduceToNat, ci, vi, getO_i, vt, vbl, vstr, bytes8, vba]
 exact Vw.done ⟨rfl, rfl, rfl⟩
theorem pre_iff {p l : List UInt8} : p.isPrefixOf l = decide (p.length <= l.length /\ l.take p.length = p) := by
 rw [Bool.eq_iff_iff, List.isPrefixOf_iff_prefix, decide_eq_true_iff]
 constructor
 . rintro ⟨t, rfl⟩; exact ⟨by simp, by simp⟩
 . rintro ⟨_, h⟩; exact ⟨l.drop p.length, by rw [<- h]; rw [List.length_take, Nat.min_eq_left (by assumption)]; exact List.take_append_drop _ _⟩
theorem hpre_ok {T : Tbl} {l p : List UInt8} : CallA prog G 55 [bl l, bl p] T fun v T' es => v = .p (.bool (p.isPrefixOf l)) /\ T' = T /\ es = [] := by
 refine CallA.eV 5 func55 ntmps55 results55 ?_
 simp -dsimp +decide only [vb, Tryd.mpf, vr, ty, en, ↓reduceIte, Nat.reduceSub, Nat.reduceAdd, Nat.reduceMul, Nat.reduceLT, Int.reduceAdd, Int.reduceSub, Int.reduceToNat, ci]
 rw [pre_iff]
 by_cases hc : p.length <= l.length
 . have h1 : ((p.length : Int) <= (l.length : Int)) = True := eq_true (by omega)
   have hd : ((l.drop 0).take (p.length - 0)) = l.take p.length := by simp
   simp -dsimp +decide (disch := omega) only [vb, Tryd.mpf, vr, ty, en, ↓reduceIte, Nat.reduceSub, Nat.reduceAdd, Nat.reduceMul, Nat.reduceLT, Int.reduceAdd, Int.reduceSub, Int.reduceToNat, ci, vi, getO_i, vt, vbl, h1, hd, Int.toNat_natCast]
   refine ⟨by omega, ⟨Nat.zero_le _, hc⟩, ?_⟩
   rw [List.drop_zero]
   refine beq_ok.det' ?_
   simp -dsimp +decide (disch := omega) only [vb, Tryd.mpf, vr, ty, en, ↓reduceIte, Nat.reduceSub, Nat.reduceAdd, Nat.reduceMul, Nat.reduceLT, Int.reduceAdd, Int.reduceSub, Int.reduceToNat, ci, vi, getO_i, vt, vbl]
   exact Vw.done ⟨by rw [Bool.eq_iff_iff.2 (show decide (l.take p.length = p) = true ↔ decide (p.length <= l.length /\ l.take p.length = p) = true by simp [hc])], rfl, rfl⟩
 . have h1 : ((p.length : Int) <= (l.length : Int)) = False := eq_false (by omega)
   simp -dsimp +decide (disch := omega) only [vb, Tryd.mpf, vr, ty, en, ↓reduceIte, Nat.reduceSub, Nat.reduceAdd, Nat.reduceMul, Nat.reduceLT, Int.reduceAdd, Int.reduceSub, Int.reduceToNat, ci, vi, getO_i, vt, vbl, h1]
   exact Vw.done ⟨by rw [decide_eq_false fun h => hc h.1], rfl, rfl⟩
theorem cutp_ok {T : Tbl} {l p : List UInt8} : CallA prog G 39 [bl l, bl p] T fun v T' es => v = .tu [bl (if p.isPrefixOf l then l.drop p.length else l), .p (.bool (p.isPrefixOf l))] /\ T' = T /\ es = [] := by
 refine CallA.eV 6 func39 ntmps39 results39 ?_
 simp -dsimp +decide only [vb, Tryd.mpf, vr, ty, en, ↓reduceIte, Nat.reduceSub, Nat.reduceAdd, Nat.reduceMul, Nat.reduceLT, Int.reduceAdd, Int.reduceSub, Int.reduceToNat, ci]
 refine hpre_ok.det' ?_
 cases hp : p.isPrefixOf l with
 | true =>
   have hl := (List.isPrefixOf_iff_prefix.1 hp).length_le
   have hd : (l.drop p.length).take (l.length - p.length) = l.drop p.length := List.take_of_length_le (by rw [List.length_drop]; omega)
   simp -dsimp +decide (disch := omega) only [vb, Tryd.mpf, vr, ty, en, ↓reduceIte, Nat.reduceSub, Nat.reduceAdd, Nat.reduceMul, Nat.reduceLT, Int.reduceAdd, Int.reduceSub, Int.reduceToNat, ci, vi, getO_i, vt, vbl, bb2, Int.toNat_natCast, hd, vres, vone]
   refine ⟨by omega, ⟨hl, Nat.le_refl _⟩, ?_⟩
   exact Vw.done ⟨rfl, rfl, rfl⟩
 | false =>
   simp -dsimp +decide (disch := omega) only [vb, Tryd.mpf, vr, ty, en, ↓reduceIte, Nat.reduceSub, Nat.reduceAdd, Nat.reduceMul, Nat.reduceLT, Int.reduceAdd, Int.reduceSub, Int.reduceToNat, ci, vi, getO_i, vt, vbl, bb2, vres, vone]
   exact Vw.done ⟨rfl, rfl, rfl⟩
theorem conv_bl (p : List UInt8) : AV.vs (p.map fun b => .p (.int .u8 (b.toNat : Int))) (ba p).size = bl p := by rw [ba_size]; rfl
theorem word_ok {T : Tbl} {i : Nat} {l p : List UInt8} (hi : T[i]? = some (rdr l)) : CallP prog G 25 [.ptr i 0, .p (.string (ba p))] T
 (fun v T' es => p.isPrefixOf l = true /\ v = .tu [] /\ T' = T.set i (rdr (l.drop p.length)) /\ es = [(i, false)]) (fun v T' es => p.isPrefixOf l = false /\ v = eno 5 /\ T' = T /\ es = []) := by
 have hil := (List.getElem?_eq_some_iff.1 hi).1
 have hi' := hi
 rw [rdr] at hi
 refine CallP.enterV Tryd.mp 6 func25 ntmps25 (congrArg Array.toList results25) rfl ⟨by simp, by simp⟩ (by kernel_rfl) (by kernel_rfl) ?_
 simp -dsimp +decide only [vb, Tryd.mpf, vr, ty, en, ↓reduceIte, Nat.reduceSub, Nat.reduceAdd, Nat.reduceMul, Nat.reduceLT, Int.reduceAdd, Int.reduceSub, Int.reduceToNat, ci]
 simp -dsimp +decide (disch := omega) only [vb, Tryd.mpf, vr, ty, en, ↓reduceIte, Nat.reduceSub, Nat.reduceAdd, Nat.reduceMul, Nat.reduceLT, Int.reduceAdd, Int.reduceSub, Int.reduceToNat, ci, vi, getO_i, vt, vbl, hi, ba_data, conv_bl]
 refine cutp_ok.det' ?_
 simp -dsimp +decide (disch := omega) only [vb, Tryd.mpf, vr, ty, en, ↓reduceIte, Nat.reduceSub, Nat.reduceAdd, Nat.reduceMul, Nat.reduceLT, Int.reduceAdd, Int.reduceSub, Int.reduceToNat, ci, vi, getO_i, vt, vbl, hi, vres, vone]
 refine (need_ok _).mono ?_ ?_
 . rintro v T' es ⟨hp, rfl, rfl, rfl⟩
   rw [if_pos hp]
   simp -dsimp +decide (disch := omega) only [vb, Tryd.mpf, vr, ty, en, ↓reduceIte, Nat.reduceSub, Nat.reduceAdd, Nat.reduceMul, Nat.reduceLT, Int.reduceAdd, Int.reduceSub, Int.reduceToNat, ci, vi, getO_i, vt, vbl, hi]
   refine ⟨rfl, ?_⟩
   rw [rec1_in hil]
   exact Vw.done ⟨hp, rfl, rfl, rfl⟩
 . rintro v T' es ⟨hp, rfl, rfl, rfl⟩
   simp -dsimp +decide (disch := omega) only [vb, Tryd.mpf, vr, ty, en, ↓reduceIte, Nat.reduceSub, Nat.reduceAdd, Nat.reduceMul, Nat.reduceLT, Int.reduceAdd, Int.reduceSub, Int.reduceToNat, ci, vi, getO_i, vt]
   exact Vw.done ⟨hp, rfl, rfl, rfl⟩
end Go.Proofs.YtglpcedoongagaaDoor
namespace Go.Proofs.YtglpcedoongagaaDoor
open Go.E Go.Proofs.YtglpcedoongagaaDoor.Tryd Go.Proofs.Tryd Go.J
section
variable {P : Program} {G : Nat -> AV}
theorem ExtA.one {f : FuncId} {args : List Value} {v : Value} {T : Tbl} {K : AV -> Tbl -> Eff -> Prop} (h : ∀ w, (callFunc f args.toArray).run P w = .ok (.value v) w) (hk : K (.p v) T []) : ExtA P G f (args.map .p) T K := by
 intro Z ρ w us hG hs hr
 obtain rfl := hr.ps_inv
 refine RunV.of_ok (v := v) (w' := w) ?_ ⟨Z, ρ, T, [], .p v, hs, Ext.refl rfl, .p v, hk⟩
 simp [h w, Result.andThen]
end
theorem idxX {T : Tbl} {l : List UInt8} {c : UInt8} {K : AV -> Tbl -> Eff -> Prop} (hk : K (wint (Lib.indexByte l c)) T []) : ExtA prog G 76 [.p (.string (ba l)), by8 c] T K := by
 refine ExtA.one (args := [.string (ba l), .int .u8 c.toNat]) (v := .int .i64 (Lib.indexByte l c)) (fun w => ?_) hk
 have hr := run_callFunc_extern (P := prog) func76 (by kernel_rfl) (by kernel_rfl) (by kernel_rfl) (e := Extern.BytealgIndexByte.indexByte) (by kernel_rfl) #[.string (ba l), .int .u8 c.toNat] w
 rw [Lib.run_indexByteString] at hr
 simpa [Result.andThen, ba_data] using hr
theorem sli_ok {T : Tbl} {l : List UInt8} {c : UInt8} : CallA prog G 65 [.p (.string (ba l)), by8 c] T fun v T' es => v = wint (Lib.indexByte l c) /\ T' = T /\ es = [] := by
 have ee : entered prog 76 = false := (by kernel_rfl)
 refine CallA.eV 8 func65 ntmps65 results65 ?_
 simp -dsimp +decide only [vb, Tryd.mpf, vsk, vr, ty, en, ↓reduceIte, Nat.reduceSub, Nat.reduceAdd, Nat.reduceMul, Nat.reduceLT, Int.reduceAdd, Int.reduceSub, Int.reduceToNat, ci]
 simp -dsimp +decide (disch := omega) only [vb, Tryd.mpf, vsk, vr, ty, en, ↓reduceIte, Nat.reduceSub, Nat.reduceAdd, Nat.reduceMul, Nat.reduceLT, Int.reduceAdd, Int.reduceSub, Int.reduceToNat, ci, vi, getO_i, vt, ee, bb2]
 refine idxX ?_
 simp -dsimp +decide (disch := omega) only [vb, Tryd.mpf, vsk, vr, ty, en, ↓reduceIte, Nat.reduceSub, Nat.reduceAdd, Nat.reduceMul, Nat.reduceLT, Int.reduceAdd, Int.reduceSub, Int.reduceToNat, ci, vi, getO_i, vt]
 exact Vw.done ⟨rfl, rfl, rfl⟩
theorem sti_ok {T : Tbl} {l : List UInt8} {c : UInt8} : CallA prog G 51 [.p (.string (ba l)), by8 c] T fun v T' es => v = wint (Lib.indexByte l c) /\ T' = T /\ es = [] := by
 refine CallA.eV 8 func51 ntmps51 results51 ?_
 simp -dsimp +decide only [vb, Tryd.mpf, vsk, vr, ty, en, ↓reduceIte, Nat.reduceSub, Nat.reduceAdd, Nat.reduceMul, Nat.reduceLT, Int.reduceAdd, Int.reduceSub, Int.reduceToNat, ci]
 refine sli_ok.det' ?_
 exact Vw.done ⟨rfl, rfl, rfl⟩
def hx16 : List UInt8 := [48,49,50,51,52,53,54,55,56,57,97,98,99,100,101,102]
theorem hexv_idx (c : UInt8) : hexv c = if 0 <= Lib.indexByte hx16 (c ||| 32) /\ ((48 <= c.toNat /\ c.toNat <= 57) ∨ 65 <= c.toNat) then some (Lib.indexByte hx16 (c ||| 32)).toNat else none := by
 have h : ∀ i : Fin 256, hexv (u8 i.val) = if 0 <= Lib.indexByte hx16 (u8 i.val ||| 32) /\ ((48 <= (u8 i.val).toNat /\ (u8 i.val).toNat <= 57) ∨ 65 <= (u8 i.val).toNat) then some (Lib.indexByte hx16 (u8 i.val ||| 32)).toNat else none := by decide +kernel
 have := h ⟨c.toNat, c.toNat_lt⟩
 rwa [u8_eq rfl] at this
theorem idx_lt (c : UInt8) : Lib.indexByte hx16 c < 16 := by
 have h : ∀ i : Fin 256, Lib.indexByte hx16 (u8 i.val) < 16 := by decide +kernel
 have := h ⟨c.toNat, c.toNat_lt⟩
 rwa [u8_eq rfl] at this
def hexs : List UInt8 -> Nat -> Option Nat
 | [], n => some n
 | c :: r, n => match hexv c with
   | some x => hexs r (16 * n + x)
   | none => none
theorem hexs_four {l : List UInt8} (h : 4 <= l.length) : hex4 l = (hexs (l.take 4) 0).map fun n => (n, l.drop 4) := by
 match l, h with
 | a :: b :: c :: d :: r, _ =>
   show hex4 _ = (hexs [a, b, c, d] 0).map fun n => (n, r)
   simp only [hex4, hexs]
   cases hexv a with
   | none => rfl
   | some x =>
     cases hexv b with
     | none => rfl
     | some y =>
       cases hexv c with
       | none => rfl
       | some z =>
         cases hexv d with
         | none => rfl
         | some t =>
           show some (_, r) = some (_, r)
           congr 2
           omega
theorem hex4_short {l : List UInt8} (h : ¬ 4 <= l.length) : hex4 l = none := by
 match l with
 | [] => rfl
 | [_] => rfl
 | [_, _] => rfl
 | [_, _, _] => rfl
 | _ :: _ :: _ :: _ :: _ => exact absurd (by simp) h
theorem hexs_snoc : ∀ (l : List UInt8) (c : UInt8) (n : Nat), hexs (l ++ [c]) n = (hexs l n).bind fun m => (hexv c).map fun x => 16 * m + x
 | [], c, n => by
   show hexs [c] n = _
   simp only [hexs]
   cases hexv c <;> rfl
 | a :: r, c, n => by
   show hexs (a :: (r ++ [c])) n = _
   simp only [hexs]
   cases hexv a with
   | none => rfl
   | some x => exact hexs_snoc r c _
theorem hexs_none : ∀ (l m : List UInt8) (n : Nat), hexs l n = none -> hexs (l ++ m) n = none
 | [], m, n, h => by cases h
 | a :: r, m, n, h => by
   show hexs (a :: (r ++ m)) n = none
   simp only [hexs] at h ⊢
   cases hv : hexv a with
   | none => rfl
   | some x => rw [hv] at h; exact hexs_none r m _ h
theorem i32_fit {n : Nat} (h : n < 2147483648) : IntKind.i32.wrap (n : Int) = (n : Int) := IntWalk.i32_in _ (by omega)
theorem or32 {n m : Nat} (hn : n < 16 ^ 4) (hm : m < 16) : IntKind.i32.wrap ((BitVec.ofInt IntKind.i32.bits (IntKind.i32.wrap ((n : Int) * 2 ^ min 4 IntKind.i32.bits)) ||| BitVec.ofInt IntKind.i32.bits (IntKind.i32.wrap (m : Int))).toNat : Nat) = ((16 * n + m : Nat) : Int) := by
 have e1 : (n : Int) * (2 : Int) ^ min 4 IntKind.i32.bits = ((n <<< 4 : Nat) : Int) := by
  rw [Nat.shiftLeft_eq]
  show (n : Int) * (2 : Int) ^ 4 = _
  omega
 have e2 : n <<< 4 = 16 * n := by rw [Nat.shiftLeft_eq]; omega
 have hn' : n < 65536 := hn
 rw [e1, i32_fit (n := n <<< 4) (by rw [e2]; omega), i32_fit (n := m) (by omega)]
 show IntKind.i32.wrap ((BitVec.ofInt 32 ((n <<< 4 : Nat) : Int) ||| BitVec.ofInt 32 (m : Int)).toNat : Nat) = _
 rw [BitVec.ofInt_natCast, BitVec.ofInt_natCast, BitVec.toNat_or, BitVec.toNat_ofNat, BitVec.toNat_ofNat, Nat.mod_eq_of_lt (show n <<< 4 < 2 ^ 32 by rw [e2]; omega), Nat.mod_eq_of_lt (show m < 2 ^ 32 by omega), <- Nat.shiftLeft_add_eq_or_of_lt (show m < 2 ^ 4 by omega), e2, i32_fit (by omega)]
theorem unit_ok {T : Tbl} {i : Nat} {l : List UInt8} (hi : T[i]? = some (rdr l)) : CallP prog G 56 [.ptr i 0] T
 (fun v T' es => ∃ n r, hex4 l = some (n, r) /\ v = .p (.int .i32 (n : Nat)) /\ T' = T.set i (rdr r) /\ es = [(i, false)]) (fun v T' es => hex4 l = none /\ v = eno 5 /\ T' = T /\ es = []) := by
 have hil := (List.getElem?_eq_some_iff.1 hi).1
 have hi' := hi
 rw [rdr] at hi
 refine CallP.enterV Tryd.mp 21 func56 ntmps56 (congrArg Array.toList results56) rfl ⟨by simp, by simp⟩ (by kernel_rfl) (by kernel_rfl) ?_
 simp -dsimp +decide only [vb, Tryd.mpf, vsk, vr, ty, en, ↓reduceIte, Nat.reduceSub, Nat.reduceAdd, Nat.reduceMul, Nat.reduceLT, Int.reduceAdd, Int.reduceSub, Int.reduceToNat, ci]
 simp -dsimp +decide (disch := omega) only [vb, Tryd.mpf, vsk, vr, ty, en, ↓reduceIte, Nat.reduceSub, Nat.reduceAdd, Nat.reduceMul, Nat.reduceLT, Int.reduceAdd, Int.reduceSub, Int.reduceToNat, ci, vi, getO_i, vt, vbl, hi]
 refine (need_ok _).mono ?_ ?_
 rotate_left
 . rintro v T' es ⟨hp, rfl, rfl, rfl⟩
   simp -dsimp +decide (disch := omega) only [vb, Tryd.mpf, vsk, vr, ty, en, ↓reduceIte, Nat.reduceSub, Nat.reduceAdd, Nat.reduceMul, Nat.reduceLT, Int.reduceAdd, Int.reduceSub, Int.reduceToNat, ci, vi, getO_i, vt]
   have hp4 : ¬ 4 <= l.length := by have := of_decide_eq_false hp; omega
   exact Vw.done ⟨hex4_short hp4, rfl, rfl, rfl⟩
 rintro v T es ⟨hp, rfl, rfl, rfl⟩
 have hp4 : 4 <= l.length := by have := of_decide_eq_true hp; omega
 have hd0 : (l.drop 0).take (4 - 0) = l.take 4 := by simp
 simp -dsimp +decide (disch := omega) only [vb, Tryd.mpf, vsk, vr, ty, en, ↓reduceIte, Nat.reduceSub, Nat.reduceAdd, Nat.reduceMul, Nat.reduceLT, Int.reduceAdd, Int.reduceSub, Int.reduceToNat, ci, vi, getO_i, vt, vbl, hi, hd0]
 refine ⟨hp4, ?_⟩
 refine SemB.loopS (fun s : Nat × Nat => [(0, .ptr i 0), (3, .p (.int .i32 (s.2 : Nat))), (18, bl (l.take 4)), (19, wint 4), (20, wint (s.1 : Int))]) (fun _ => T) (fun s => s.1 <= 4 /\ hexs (l.take s.1) 0 = some s.2 /\ s.2 < 16 ^ s.1) (fun s => 4 - s.1) (0, 0) [] 0
  (fun n : Nat => [(0, .ptr i 0), (3, .p (.int .i32 (n : Nat)))]) (fun _ => T) (fun n => hexs (l.take 4) 0 = some n) ⟨Nat.zero_le _, by simp [hexs], Nat.one_pos⟩ ⟨rfl, rfl, rfl, ?_, rfl, rfl⟩ rfl (by simp) ?_ ?_
 . show some (AV.p (.int .i64 ((l.take 4).length : Int))) = some (wint 4)
   rw [List.length_take, Nat.min_eq_left hp4]; rfl
 . rintro ⟨k, n⟩ g ⟨hk, hh, hn⟩
   dsimp only at hk hh hn
   refine SemB.of (by kernel_rfl) ?_
   simp -dsimp +decide (disch := omega) only [vb, Tryd.mpf, vsk, vr, ty, en, ↓reduceIte, Nat.reduceSub, Nat.reduceAdd, Nat.reduceMul, Nat.reduceLT, Int.reduceAdd, Int.reduceSub, Int.reduceToNat, ci, vi, getO_i, vt, vbl]
   refine CondP.dec (fun hc => ?_) (fun hc => ?_)
   . have hk4 : k < 4 := by omega
     have hl4 : (l.take 4).length = 4 := by rw [List.length_take, Nat.min_eq_left hp4]
     have hkl : k < (l.take 4).length := by omega
     have hkl' : (k : Int) < ((l.take 4).length : Int) := by omega
     obtain ⟨c, hg0⟩ : ∃ c, (l.take 4)[k]? = some c := ⟨_, List.getElem?_eq_getElem hkl⟩
     have hg : ((l.take 4).map by8)[k]? = some (by8 c) := by rw [List.getElem?_map, hg0]; rfl
     have h0 : (0 : Int) <= (k : Int) := Int.natCast_nonneg k
     simp -dsimp +decide (disch := omega) only [vb, Tryd.mpf, vsk, vr, ty, en, ↓reduceIte, Nat.reduceSub, Nat.reduceAdd, Nat.reduceMul, Nat.reduceLT, Int.reduceAdd, Int.reduceSub, Int.reduceToNat, ci, vi, getO_i, vt, vbl, h0, hkl', hkl, Int.toNat_natCast, hg, bb2]
     have hix := hexv_idx c
     have hx16' := idx_lt (c ||| 32)
     refine (sti_ok (l := hx16) (c := c ||| 32)).det' ?_
     generalize Lib.indexByte hx16 (c ||| 32) = x at hix hx16' ⊢
     simp -dsimp +decide (disch := omega) only [vb, Tryd.mpf, vsk, vr, ty, en, ↓reduceIte, Nat.reduceSub, Nat.reduceAdd, Nat.reduceMul, Nat.reduceLT, Int.reduceAdd, Int.reduceSub, Int.reduceToNat, ci, vi, getO_i, vt]
     have hl0 : l[k]? = some c := by rw [List.getElem?_take_of_lt hk4] at hg0; exact hg0
     have hsn : ∀ m, hexv c = some m -> hexs (l.take (k + 1)) 0 = some (16 * n + m) := by
      intro m hm
      rw [List.take_add_one, hl0, Option.toList_some, hexs_snoc, hh, Option.bind_some, hm, Option.map_some]
     have hnn : hexv c = none -> hex4 l = none := by
      intro hm
      have e4 : l.take 4 = l.take (k + 1) ++ (l.drop (k + 1)).take (3 - k) := by rw [<- List.take_add, show k + 1 + (3 - k) = 4 by omega]
      have e5 : hexs (l.take (k + 1)) 0 = none := by rw [List.take_add_one, hl0, Option.toList_some, hexs_snoc, hh, Option.bind_some, hm, Option.map_none]
      rw [hexs_four hp4, e4, hexs_none _ _ _ e5]; rfl
     rcases (show x < 0 ∨ (0 <= x /\ 65 <= c.toNat) ∨ (0 <= x /\ c.toNat < 48) ∨ (0 <= x /\ 48 <= c.toNat /\ c.toNat <= 57) ∨ (0 <= x /\ 57 < c.toNat /\ c.toNat < 65) by omega) with b | ⟨b1, b2⟩ | ⟨b1, b2⟩ | ⟨b1, b2, b3⟩ | ⟨b1, b2, b3⟩
     . have b1' : (0 <= x) = False := eq_false (by omega)
       simp -dsimp +decide (disch := omega) only [vb, Tryd.mpf, vsk, vr, ty, en, ↓reduceIte, Nat.reduceSub, Nat.reduceAdd, Nat.reduceMul, Nat.reduceLT, Int.reduceAdd, Int.reduceSub, Int.reduceToNat, ci, vi, getO_i, vt, b1']
       refine (need_ok _).mono ?_ ?_
       . rintro v T' es ⟨h, -⟩
         cases h
       . rintro v T es ⟨-, rfl, rfl, rfl⟩
         simp -dsimp +decide (disch := omega) only [vb, Tryd.mpf, vsk, vr, ty, en, ↓reduceIte, Nat.reduceSub, Nat.reduceAdd, Nat.reduceMul, Nat.reduceLT, Int.reduceAdd, Int.reduceSub, Int.reduceToNat, ci, vi, getO_i, vt]
         rw [if_neg (by omega)] at hix
         exact Vw.done ⟨hnn hix, rfl, rfl, rfl⟩
     . have b1' : (0 <= x) = True := eq_true (by omega)
       have b2' : ((65 : Int) <= (c.toNat : Int)) = True := eq_true (by omega)
       have b3' : ((48 : Int) <= (c.toNat : Int)) = True := eq_true (by omega)
       have b4' : ((c.toNat : Int) <= 57) = False := eq_false (by omega)
       simp -dsimp +decide (disch := omega) only [vb, Tryd.mpf, vsk, vr, ty, en, ↓reduceIte, Nat.reduceSub, Nat.reduceAdd, Nat.reduceMul, Nat.reduceLT, Int.reduceAdd, Int.reduceSub, Int.reduceToNat, ci, vi, getO_i, vt, b1', b2', b3', b4']
       refine (need_ok _).mono ?_ ?_
       . rintro v T es ⟨-, rfl, rfl, rfl⟩
         simp -dsimp +decide (disch := omega) only [vb, Tryd.mpf, vsk, vr, ty, en, ↓reduceIte, Nat.reduceSub, Nat.reduceAdd, Nat.reduceMul, Nat.reduceLT, Int.reduceAdd, Int.reduceSub, Int.reduceToNat, ci, vi, getO_i, vt]
         obtain ⟨m, rfl⟩ := Int.eq_ofNat_of_zero_le b1
         rw [if_pos ⟨b1, by omega⟩] at hix
         rw [or32 (Nat.lt_of_lt_of_le hn (Nat.pow_le_pow_right (by decide) hk)) (by omega)]
         exact ⟨(k + 1, 16 * n + m), ⟨⟨hk4, hsn m (by rw [hix]; rfl), by dsimp only; rw [Nat.pow_succ]; omega⟩, by dsimp only; omega⟩, SeeL.done ⟨rfl, ⟨rfl, rfl, rfl, rfl, rfl, rfl⟩, rfl, by simp⟩⟩
       . rintro v T' es ⟨h, -⟩
         cases h
     . have b1' : (0 <= x) = True := eq_true (by omega)
       have b2' : ((65 : Int) <= (c.toNat : Int)) = False := eq_false (by omega)
       have b3' : ((48 : Int) <= (c.toNat : Int)) = False := eq_false (by omega)
       simp -dsimp +decide (disch := omega) only [vb, Tryd.mpf, vsk, vr, ty, en, ↓reduceIte, Nat.reduceSub, Nat.reduceAdd, Nat.reduceMul, Nat.reduceLT, Int.reduceAdd, Int.reduceSub, Int.reduceToNat, ci, vi, getO_i, vt, b1', b2', b3']
       refine (need_ok _).mono ?_ ?_
       . rintro v T' es ⟨h, -⟩
         cases h
       . rintro v T es ⟨-, rfl, rfl, rfl⟩
         simp -dsimp +decide (disch := omega) only [vb, Tryd.mpf, vsk, vr, ty, en, ↓reduceIte, Nat.reduceSub, Nat.reduceAdd, Nat.reduceMul, Nat.reduceLT, Int.reduceAdd, Int.reduceSub, Int.reduceToNat, ci, vi, getO_i, vt]
         rw [if_neg (by omega)] at hix
         exact Vw.done ⟨hnn hix, rfl, rfl, rfl⟩
     . have b1' : (0 <= x) = True := eq_true (by omega)
       have b2' : ((65 : Int) <= (c.toNat : Int)) = False := eq_false (by omega)
       have b3' : ((48 : Int) <= (c.toNat : Int)) = True := eq_true (by omega)
       have b4' : ((c.toNat : Int) <= 57) = True := eq_true (by omega)
       simp -dsimp +decide (disch := omega) only [vb, Tryd.mpf, vsk, vr, ty, en, ↓reduceIte, Nat.reduceSub, Nat.reduceAdd, Nat.reduceMul, Nat.reduceLT, Int.reduceAdd, Int.reduceSub, Int.reduceToNat, ci, vi, getO_i, vt, b1', b2', b3', b4']
       refine (need_ok _).mono ?_ ?_
       . rintro v T es ⟨-, rfl, rfl, rfl⟩
         simp -dsimp +decide (disch := omega) only [vb, Tryd.mpf, vsk, vr, ty, en, ↓reduceIte, Nat.reduceSub, Nat.reduceAdd, Nat.reduceMul, Nat.reduceLT, Int.reduceAdd, Int.reduceSub, Int.reduceToNat, ci, vi, getO_i, vt]
         obtain ⟨m, rfl⟩ := Int.eq_ofNat_of_zero_le b1
         rw [if_pos ⟨b1, by omega⟩] at hix
         rw [or32 (Nat.lt_of_lt_of_le hn (Nat.pow_le_pow_right (by decide) hk)) (by omega)]
         exact ⟨(k + 1, 16 * n + m), ⟨⟨hk4, hsn m (by rw [hix]; rfl), by dsimp only; rw [Nat.pow_succ]; omega⟩, by dsimp only; omega⟩, SeeL.done ⟨rfl, ⟨rfl, rfl, rfl, rfl, rfl, rfl⟩, rfl, by simp⟩⟩
       . rintro v T' es ⟨h, -⟩
         cases h
     . have b1' : (0 <= x) = True := eq_true (by omega)
       have b2' : ((65 : Int) <= (c.toNat : Int)) = False := eq_false (by omega)
       have b3' : ((48 : Int) <= (c.toNat : Int)) = True := eq_true (by omega)
       have b4' : ((c.toNat : Int) <= 57) = False := eq_false (by omega)
       simp -dsimp +decide (disch := omega) only [vb, Tryd.mpf, vsk, vr, ty, en, ↓reduceIte, Nat.reduceSub, Nat.reduceAdd, Nat.reduceMul, Nat.reduceLT, Int.reduceAdd, Int.reduceSub, Int.reduceToNat, ci, vi, getO_i, vt, b1', b2', b3', b4']
       refine (need_ok _).mono ?_ ?_
       . rintro v T' es ⟨h, -⟩
         cases h
       . rintro v T es ⟨-, rfl, rfl, rfl⟩
         simp -dsimp +decide (disch := omega) only [vb, Tryd.mpf, vsk, vr, ty, en, ↓reduceIte, Nat.reduceSub, Nat.reduceAdd, Nat.reduceMul, Nat.reduceLT, Int.reduceAdd, Int.reduceSub, Int.reduceToNat, ci, vi, getO_i, vt]
         rw [if_neg (by omega)] at hix
         exact Vw.done ⟨hnn hix, rfl, rfl, rfl⟩
   . have e : k = 4 := by omega
     subst e
     simp -dsimp +decide (disch := omega) only [vb, Tryd.mpf, vsk, vr, ty, en, ↓reduceIte, Nat.reduceSub, Nat.reduceAdd, Nat.reduceMul, Nat.reduceLT, Int.reduceAdd, Int.reduceSub, Int.reduceToNat, ci, vi, getO_i, vt]
     exact ⟨n, hh, SeeL.done ⟨rfl, ⟨rfl, rfl, rfl⟩, rfl, by simp⟩⟩
 . rintro n g tmp hn
   simp -dsimp +decide (disch := omega) only [vb, Tryd.mpf, vsk, vr, ty, en, ↓reduceIte, Nat.reduceSub, Nat.reduceAdd, Nat.reduceMul, Nat.reduceLT, Int.reduceAdd, Int.reduceSub, Int.reduceToNat, ci, vi, getO_i, vt, vbl, hi]
   refine ⟨⟨hp4, Nat.le_refl _⟩, rfl, ?_⟩
   rw [rec1_in hil]
   have hd : (l.drop 4).take (l.length - 4) = l.drop 4 := List.take_of_length_le (by rw [List.length_drop]; omega)
   rw [hd]
   exact Vw.done ⟨n, l.drop 4, by rw [hexs_four hp4, hn]; rfl, rfl, rfl, rfl⟩
end Go.Proofs.YtglpcedoongagaaDoor
namespace Go.Proofs.YtglpcedoongagaaDoor
open Go.E Go.Proofs.YtglpcedoongagaaDoor.Tryd Go.Proofs.Tryd Go.J
def es1 : List UInt8 := [34,92,98,102,110,114,116]
def es2 : List UInt8 := [34,92,8,12,10,13,9]
def esc1 (c : UInt8) : Option Nat :=
 if c = 34 ∨ c = 92 ∨ c = 47 then some c.toNat else if c = 98 then some 8 else if c = 102 then some 12 else if c = 110 then some 10
  else if c = 114 then some 13 else if c = 116 then some 9 else none
theorem esc_cons (c : UInt8) (r : B) : esc (c :: r) = match esc1 c with
 | some n => some (n, r)
 | none => if c = 117 then uni r else none := by
 unfold esc esc1
 (repeat' split) <;> simp_all
theorem esc1_idx (c : UInt8) : esc1 c = if 0 <= Lib.indexByte es1 c then (es2[(Lib.indexByte es1 c).toNat]?).map UInt8.toNat else if c = 47 then some 47 else none := by
 have h : ∀ i : Fin 256, esc1 (u8 i.val) = if 0 <= Lib.indexByte es1 (u8 i.val) then (es2[(Lib.indexByte es1 (u8 i.val)).toNat]?).map UInt8.toNat else if u8 i.val = 47 then some 47 else none := by decide +kernel
 have := h ⟨c.toNat, c.toNat_lt⟩
 rwa [u8_eq rfl] at this
theorem es1_lt (c : UInt8) : Lib.indexByte es1 c < 7 := by
 have h : ∀ i : Fin 256, Lib.indexByte es1 (u8 i.val) < 7 := by decide +kernel
 have := h ⟨c.toNat, c.toNat_lt⟩
 rwa [u8_eq rfl] at this
theorem pair_not {n : Nat} {l : List UInt8} (h : List.isPrefixOf [92, 117] l = false) : pair n l = none := by
 unfold pair
 split
 . rename_i a b r
   refine if_neg ?_
   rintro ⟨ha, hb⟩
   subst ha; subst hb
   exact absurd h (by simp [List.isPrefixOf])
 . rfl
theorem pair_is {n : Nat} {l : List UInt8} (h : List.isPrefixOf [92, 117] l = true) : pair n l = low n (l.drop 2) := by
 obtain ⟨t, rfl⟩ := List.isPrefixOf_iff_prefix.1 h
 show (if (92 : UInt8) = 92 /\ (117 : UInt8) = 117 then low n t else none) = low n t
 exact if_pos (by decide)
theorem sur_eq {n1 n2 : Nat} (h1 : 55296 <= n1) (h2 : n1 < 56320) (h3 : 56320 <= n2) (h4 : n2 < 57344) :
 IntKind.i32.wrap (IntKind.i32.wrap (IntKind.i32.wrap (65536 + IntKind.i32.wrap (IntKind.i32.wrap ((n1 : Int) - 55296) * (2 : Int) ^ min 10 IntKind.i32.bits)) + (n2 : Int)) - 56320) = ((0x10000 + (n1 - 0xd800) * 1024 + (n2 - 0xdc00) : Nat) : Int) := by
 have e0 : (2 : Int) ^ min 10 IntKind.i32.bits = 1024 := rfl
 rw [e0, IntWalk.i32_in ((n1 : Int) - 55296) (by omega), IntWalk.i32_in (((n1 : Int) - 55296) * 1024) (by omega), IntWalk.i32_in (65536 + ((n1 : Int) - 55296) * 1024) (by omega), IntWalk.i32_in (65536 + ((n1 : Int) - 55296) * 1024 + (n2 : Int)) (by omega), IntWalk.i32_in _ (by omega)]
 omega
theorem vrune_ok {T : Tbl} {n : Nat} (hn : n < 2147483648) : CallA prog G 57 [.p (.int .i32 (n : Nat))] T fun v T' es => v = .p (.bool (decide (okC n))) /\ T' = T /\ es = [] := by
 refine CallA.eV 5 func57 ntmps57 results57 ?_
 simp -dsimp +decide only [vb, Tryd.mpf, vr, ty, en, ↓reduceIte, Nat.reduceSub, Nat.reduceAdd, Nat.reduceMul, Nat.reduceLT, Int.reduceAdd, Int.reduceSub, Int.reduceToNat, ci]
 have h0 : ((0 : Int) <= (n : Int)) = True := eq_true (by omega)
 by_cases h1 : n < 55296
 . have h1' : ((n : Int) < 55296) = True := eq_true (by omega)
   simp -dsimp +decide (disch := omega) only [vb, Tryd.mpf, vr, ty, en, ↓reduceIte, Nat.reduceSub, Nat.reduceAdd, Nat.reduceMul, Nat.reduceLT, Int.reduceAdd, Int.reduceSub, Int.reduceToNat, ci, vi, getO_i, vt, h0, h1']
   exact Vw.done ⟨by rw [decide_eq_true (show okC n from ⟨by omega, by omega⟩)], rfl, rfl⟩
 . have h1' : ((n : Int) < 55296) = False := eq_false (by omega)
   by_cases h2 : 57343 < n
   . have h2' : ((57343 : Int) < (n : Int)) = True := eq_true (by omega)
     by_cases h3 : n <= 1114111
     . have h3' : ((n : Int) <= 1114111) = True := eq_true (by omega)
       simp -dsimp +decide (disch := omega) only [vb, Tryd.mpf, vr, ty, en, ↓reduceIte, Nat.reduceSub, Nat.reduceAdd, Nat.reduceMul, Nat.reduceLT, Int.reduceAdd, Int.reduceSub, Int.reduceToNat, ci, vi, getO_i, vt, h0, h1', h2', h3']
       exact Vw.done ⟨by rw [decide_eq_true (show okC n from ⟨by omega, by omega⟩)], rfl, rfl⟩
     . have h3' : ((n : Int) <= 1114111) = False := eq_false (by omega)
       simp -dsimp +decide (disch := omega) only [vb, Tryd.mpf, vr, ty, en, ↓reduceIte, Nat.reduceSub, Nat.reduceAdd, Nat.reduceMul, Nat.reduceLT, Int.reduceAdd, Int.reduceSub, Int.reduceToNat, ci, vi, getO_i, vt, h0, h1', h2', h3']
       exact Vw.done ⟨by rw [decide_eq_false (show ¬ okC n from fun h => h3 (by have := h.1; omega))], rfl, rfl⟩
   . have h2' : ((57343 : Int) < (n : Int)) = False := eq_false (by omega)
     simp -dsimp +decide (disch := omega) only [vb, Tryd.mpf, vr, ty, en, ↓reduceIte, Nat.reduceSub, Nat.reduceAdd, Nat.reduceMul, Nat.reduceLT, Int.reduceAdd, Int.reduceSub, Int.reduceToNat, ci, vi, getO_i, vt, h0, h1', h2']
     exact Vw.done ⟨by rw [decide_eq_false (show ¬ okC n from fun h => by have := h.2; omega)], rfl, rfl⟩
theorem escape_ok {T : Tbl} {i : Nat} {l : List UInt8} (hi : T[i]? = some (rdr l)) : CallP prog G 40 [.ptr i 0] T
 (fun v T' es => ∃ n r, esc l = some (n, r) /\ v = .p (.int .i32 (n : Nat)) /\ T' = T.set i (rdr r) /\ es = [(i, false)]) (fun v T' es => esc l = none /\ v = eno 5 /\ (∃ m, T' = T.set i (rdr m)) /\ es = [(i, false)]) := by
 have hil := (List.getElem?_eq_some_iff.1 hi).1
 have hi' := hi
 rw [rdr] at hi
 refine CallP.enterV Tryd.mp 7 func40 ntmps40 (congrArg Array.toList results40) rfl ⟨by simp, by simp⟩ (by kernel_rfl) (by kernel_rfl) ?_
 simp -dsimp +decide only [vb, Tryd.mpf, vr, ty, en, ↓reduceIte, Nat.reduceSub, Nat.reduceAdd, Nat.reduceMul, Nat.reduceLT, Int.reduceAdd, Int.reduceSub, Int.reduceToNat, ci]
 simp -dsimp +decide (disch := omega) only [vb, Tryd.mpf, vr, ty, en, ↓reduceIte, Nat.reduceSub, Nat.reduceAdd, Nat.reduceMul, Nat.reduceLT, Int.reduceAdd, Int.reduceSub, Int.reduceToNat, ci, vi, getO_i, vt, vbl, hi]
 refine (need_ok _).mono ?_ ?_
 rotate_left
 . rintro v T' es ⟨hp, rfl, rfl, rfl⟩
   simp -dsimp +decide (disch := omega) only [vb, Tryd.mpf, vr, ty, en, ↓reduceIte, Nat.reduceSub, Nat.reduceAdd, Nat.reduceMul, Nat.reduceLT, Int.reduceAdd, Int.reduceSub, Int.reduceToNat, ci, vi, getO_i, vt]
   have hl : l = [] := by
    have := of_decide_eq_false hp
    cases l with
    | nil => rfl
    | cons => simp at this
   subst hl
   exact Vw.eff (E' := [(i, false)]) (by simp) (Vw.done ⟨rfl, rfl, ⟨_, (set_self hi').symm⟩, rfl⟩)
 rintro v T es ⟨hp, rfl, rfl, rfl⟩
 obtain ⟨c, r, rfl⟩ : ∃ c r, l = c :: r := by
  cases l with
  | nil => have := of_decide_eq_true hp; simp at this
  | cons c r => exact ⟨c, r, rfl⟩
 have h0 : (0 < (((c :: r).length : Nat) : Int)) = True := eq_true (by simp)
 have hg : ((c :: r).map by8)[0]? = some (by8 c) := rfl
 have hl0 : 0 < (c :: r).length := by simp
 have h1 : 1 <= (c :: r).length := by simp
 have hd : ((c :: r).drop 1).take ((c :: r).length - 1) = r := by simp
 simp -dsimp +decide (disch := omega) only [vb, Tryd.mpf, vr, ty, en, ↓reduceIte, Nat.reduceSub, Nat.reduceAdd, Nat.reduceMul, Nat.reduceLT, Int.reduceAdd, Int.reduceSub, Int.reduceToNat, ci, vi, getO_i, vt, vbl, hi, h0, hg, hl0, hd, bb2]
 refine ⟨⟨h1, Nat.le_refl _⟩, rfl, ?_⟩
 simp only [rec1_in hil]
 have he := esc1_idx c
 have hlt := es1_lt c
 have hec := esc_cons c r
 refine (sti_ok (l := es1)).det' ?_
 generalize Lib.indexByte es1 c = x at he hlt ⊢
 by_cases b1 : 0 <= x
 . have b1' : (0 <= x) = True := eq_true b1
   rw [if_pos b1] at he
   obtain ⟨d, hd⟩ : ∃ d, es2[x.toNat]? = some d := ⟨_, List.getElem?_eq_getElem (show x.toNat < es2.length by show x.toNat < 7; omega)⟩
   rw [hd, Option.map_some] at he
   rw [he] at hec
   have hx : (⟨#[34,92,8,12,10,13,9]⟩ : ByteArray)[x.toNat]? = some d := (ba_get es2 x.toNat).trans hd
   have hw : IntKind.i32.wrap (d.toNat : Int) = (d.toNat : Int) := i32_fit (by have := d.toNat_lt; omega)
   simp -dsimp +decide (disch := omega) only [vb, Tryd.mpf, vr, ty, en, ↓reduceIte, Nat.reduceSub, Nat.reduceAdd, Nat.reduceMul, Nat.reduceLT, Int.reduceAdd, Int.reduceSub, Int.reduceToNat, ci, vi, getO_i, vt, b1', hx, bb2, hw]
   exact Vw.done ⟨d.toNat, r, hec, rfl, rfl, rec1_in hil _ _⟩
 have b1' : (0 <= x) = False := eq_false b1
 rw [if_neg b1] at he
 by_cases b2 : c = 47
 . subst b2
   rw [if_pos rfl] at he
   rw [he] at hec
   simp -dsimp +decide (disch := omega) only [vb, Tryd.mpf, vr, ty, en, ↓reduceIte, Nat.reduceSub, Nat.reduceAdd, Nat.reduceMul, Nat.reduceLT, Int.reduceAdd, Int.reduceSub, Int.reduceToNat, ci, vi, getO_i, vt, b1']
   exact Vw.done ⟨47, r, hec, rfl, rfl, rec1_in hil _ _⟩
 rw [if_neg b2] at he
 rw [he] at hec
 have b2' : ((c.toNat : Int) = 47) = False := eq_false fun h => b2 (UInt8.toNat_inj.1 (by show c.toNat = 47; omega))
 have hi1 : ∀ m : List UInt8, (T.set i (AObj.cells 45 [bl m]))[i]? = some (rdr m) := fun m => List.getElem?_set_self hil
 by_cases b3 : c = 117
 rotate_left
 . rw [if_neg b3] at hec
   have b3' : ((c.toNat : Int) = 117) = False := eq_false fun h => b3 (UInt8.toNat_inj.1 (by show c.toNat = 117; omega))
   simp -dsimp +decide (disch := omega) only [vb, Tryd.mpf, vr, ty, en, ↓reduceIte, Nat.reduceSub, Nat.reduceAdd, Nat.reduceMul, Nat.reduceLT, Int.reduceAdd, Int.reduceSub, Int.reduceToNat, ci, vi, getO_i, vt, b1', b2', b3']
   refine (need_ok _).mono ?_ ?_
   . rintro v T' es ⟨h, -⟩
     cases h
   . rintro v T' es ⟨-, rfl, rfl, rfl⟩
     simp -dsimp +decide (disch := omega) only [vb, Tryd.mpf, vr, ty, en, ↓reduceIte, Nat.reduceSub, Nat.reduceAdd, Nat.reduceMul, Nat.reduceLT, Int.reduceAdd, Int.reduceSub, Int.reduceToNat, ci, vi, getO_i, vt]
     exact Vw.done ⟨hec, rfl, ⟨r, rfl⟩, rec1_in hil _ _⟩
 subst b3
 rw [if_pos rfl] at hec
 have hec : esc (117 :: r) = uni r := hec
 simp -dsimp +decide (disch := omega) only [vb, Tryd.mpf, vr, ty, en, ↓reduceIte, Nat.reduceSub, Nat.reduceAdd, Nat.reduceMul, Nat.reduceLT, Int.reduceAdd, Int.reduceSub, Int.reduceToNat, ci, vi, getO_i, vt, b1']
 refine (need_ok _).mono ?_ ?_
 rotate_left
 . rintro v T' es ⟨h, -⟩
   cases h
 rintro v T' es ⟨-, rfl, rfl, rfl⟩
 simp -dsimp +decide (disch := omega) only [vb, Tryd.mpf, vr, ty, en, ↓reduceIte, Nat.reduceSub, Nat.reduceAdd, Nat.reduceMul, Nat.reduceLT, Int.reduceAdd, Int.reduceSub, Int.reduceToNat, ci, vi, getO_i, vt]
 refine (unit_ok (hi1 r)).mono ?_ ?_
 rotate_left
 . rintro v T' es ⟨hn, rfl, rfl, rfl⟩
   simp -dsimp +decide (disch := omega) only [vb, Tryd.mpf, vr, ty, en, ↓reduceIte, Nat.reduceSub, Nat.reduceAdd, Nat.reduceMul, Nat.reduceLT, Int.reduceAdd, Int.reduceSub, Int.reduceToNat, ci, vi, getO_i, vt]
   refine Vw.done ⟨?_, rfl, ⟨r, rfl⟩, rec1_in hil _ _⟩
   rw [hec, uni, hn]
 rintro v T' es ⟨n1, r1, hn1, rfl, rfl, rfl⟩
 obtain ⟨n1l, -⟩ := hex4_spec hn1
 rw [List.set_set]
 have hT1 : ∀ m : List UInt8, (T.set i (rdr m))[i]? = some (rdr m) := fun m => List.getElem?_set_self hil
 by_cases c1 : 55296 <= n1 /\ n1 < 56320
 rotate_left
 . have hu : uni r = if okC n1 then some (n1, r1) else none := by rw [uni, hn1]; exact if_neg c1
   rw [hu] at hec
   have fin : ∀ b : Bool, b = decide (okC n1) -> True := fun _ _ => trivial
   by_cases c2 : 55296 <= n1
   . have c2' : ((55296 : Int) <= (n1 : Int)) = True := eq_true (by omega)
     have c3' : ((n1 : Int) < 56320) = False := eq_false (by omega)
     simp -dsimp +decide (disch := omega) only [vb, Tryd.mpf, vr, ty, en, ↓reduceIte, Nat.reduceSub, Nat.reduceAdd, Nat.reduceMul, Nat.reduceLT, Int.reduceAdd, Int.reduceSub, Int.reduceToNat, ci, vi, getO_i, vt, c2', c3']
     refine (vrune_ok (n := n1) (by omega)).det' ?_
     simp -dsimp +decide (disch := omega) only [vb, Tryd.mpf, vr, ty, en, ↓reduceIte, Nat.reduceSub, Nat.reduceAdd, Nat.reduceMul, Nat.reduceLT, Int.reduceAdd, Int.reduceSub, Int.reduceToNat, ci, vi, getO_i, vt]
     refine (need_ok _).mono ?_ ?_
     . rintro v T' es ⟨ho, rfl, rfl, rfl⟩
       rw [if_pos (of_decide_eq_true ho)] at hec
       simp -dsimp +decide (disch := omega) only [vb, Tryd.mpf, vr, ty, en, ↓reduceIte, Nat.reduceSub, Nat.reduceAdd, Nat.reduceMul, Nat.reduceLT, Int.reduceAdd, Int.reduceSub, Int.reduceToNat, ci, vi, getO_i, vt]
       exact Vw.eff (E' := [(i, false)]) (by simp [rec1_in hil]) (Vw.done ⟨n1, r1, hec, rfl, rfl, rfl⟩)
     . rintro v T' es ⟨ho, rfl, rfl, rfl⟩
       rw [if_neg (of_decide_eq_false ho)] at hec
       simp -dsimp +decide (disch := omega) only [vb, Tryd.mpf, vr, ty, en, ↓reduceIte, Nat.reduceSub, Nat.reduceAdd, Nat.reduceMul, Nat.reduceLT, Int.reduceAdd, Int.reduceSub, Int.reduceToNat, ci, vi, getO_i, vt]
       exact Vw.eff (E' := [(i, false)]) (by simp [rec1_in hil]) (Vw.done ⟨hec, rfl, ⟨r1, rfl⟩, rfl⟩)
   . have c2' : ((55296 : Int) <= (n1 : Int)) = False := eq_false (by omega)
     simp -dsimp +decide (disch := omega) only [vb, Tryd.mpf, vr, ty, en, ↓reduceIte, Nat.reduceSub, Nat.reduceAdd, Nat.reduceMul, Nat.reduceLT, Int.reduceAdd, Int.reduceSub, Int.reduceToNat, ci, vi, getO_i, vt, c2']
     refine (vrune_ok (n := n1) (by omega)).det' ?_
     simp -dsimp +decide (disch := omega) only [vb, Tryd.mpf, vr, ty, en, ↓reduceIte, Nat.reduceSub, Nat.reduceAdd, Nat.reduceMul, Nat.reduceLT, Int.reduceAdd, Int.reduceSub, Int.reduceToNat, ci, vi, getO_i, vt]
     refine (need_ok _).mono ?_ ?_
     . rintro v T' es ⟨ho, rfl, rfl, rfl⟩
       rw [if_pos (of_decide_eq_true ho)] at hec
       simp -dsimp +decide (disch := omega) only [vb, Tryd.mpf, vr, ty, en, ↓reduceIte, Nat.reduceSub, Nat.reduceAdd, Nat.reduceMul, Nat.reduceLT, Int.reduceAdd, Int.reduceSub, Int.reduceToNat, ci, vi, getO_i, vt]
       exact Vw.eff (E' := [(i, false)]) (by simp [rec1_in hil]) (Vw.done ⟨n1, r1, hec, rfl, rfl, rfl⟩)
     . rintro v T' es ⟨ho, rfl, rfl, rfl⟩
       rw [if_neg (of_decide_eq_false ho)] at hec
       simp -dsimp +decide (disch := omega) only [vb, Tryd.mpf, vr, ty, en, ↓reduceIte, Nat.reduceSub, Nat.reduceAdd, Nat.reduceMul, Nat.reduceLT, Int.reduceAdd, Int.reduceSub, Int.reduceToNat, ci, vi, getO_i, vt]
       exact Vw.eff (E' := [(i, false)]) (by simp [rec1_in hil]) (Vw.done ⟨hec, rfl, ⟨r1, rfl⟩, rfl⟩)
 have c2' : ((55296 : Int) <= (n1 : Int)) = True := eq_true (by omega)
 have c3' : ((n1 : Int) < 56320) = True := eq_true (by omega)
 have hu : uni r = pair n1 r1 := by rw [uni, hn1]; exact if_pos c1
 rw [hu] at hec
 simp -dsimp +decide (disch := omega) only [vb, Tryd.mpf, vr, ty, en, ↓reduceIte, Nat.reduceSub, Nat.reduceAdd, Nat.reduceMul, Nat.reduceLT, Int.reduceAdd, Int.reduceSub, Int.reduceToNat, ci, vi, getO_i, vt, c2', c3']
 refine (word_ok (p := [92, 117]) (hT1 r1)).mono ?_ ?_
 rotate_left
 . rintro v T' es ⟨hp, rfl, rfl, rfl⟩
   simp -dsimp +decide (disch := omega) only [vb, Tryd.mpf, vr, ty, en, ↓reduceIte, Nat.reduceSub, Nat.reduceAdd, Nat.reduceMul, Nat.reduceLT, Int.reduceAdd, Int.reduceSub, Int.reduceToNat, ci, vi, getO_i, vt]
   refine Vw.eff (E' := [(i, false)]) (by simp [rec1_in hil]) (Vw.done ⟨hec.trans (pair_not hp), rfl, ⟨r1, rfl⟩, rfl⟩)
 rintro v T' es ⟨hp, rfl, rfl, rfl⟩
 rw [List.set_set]
 rw [pair_is hp] at hec
 simp -dsimp +decide (disch := omega) only [vb, Tryd.mpf, vr, ty, en, ↓reduceIte, Nat.reduceSub, Nat.reduceAdd, Nat.reduceMul, Nat.reduceLT, Int.reduceAdd, Int.reduceSub, Int.reduceToNat, ci, vi, getO_i, vt]
 refine (unit_ok (hT1 _)).mono ?_ ?_
 rotate_left
 . rintro v T' es ⟨hn, rfl, rfl, rfl⟩
   simp -dsimp +decide (disch := omega) only [vb, Tryd.mpf, vr, ty, en, ↓reduceIte, Nat.reduceSub, Nat.reduceAdd, Nat.reduceMul, Nat.reduceLT, Int.reduceAdd, Int.reduceSub, Int.reduceToNat, ci, vi, getO_i, vt]
   refine Vw.eff (E' := [(i, false)]) (by simp [rec1_in hil]) (Vw.done ⟨by rw [show ([92, 117] : List UInt8).length = 2 from rfl] at hn; rw [hec, low, hn], rfl, ⟨_, rfl⟩, rfl⟩)
 rintro v T' es ⟨n2, r3, hn2, rfl, rfl, rfl⟩
 rw [List.set_set]
 obtain ⟨n2l, -⟩ := hex4_spec hn2
 have hlo : low n1 (r1.drop 2) = if 0xdc00 <= n2 /\ n2 < 0xe000 then some (0x10000 + (n1 - 0xd800) * 1024 + (n2 - 0xdc00), r3) else none := by
  rw [show ([92, 117] : List UInt8).length = 2 from rfl] at hn2
  rw [low, hn2]
 rw [hlo] at hec
 by_cases d1 : 56320 <= n2
 rotate_left
 . have d1' : ((56320 : Int) <= (n2 : Int)) = False := eq_false (by omega)
   rw [if_neg (fun h => d1 h.1)] at hec
   simp -dsimp +decide (disch := omega) only [vb, Tryd.mpf, vr, ty, en, ↓reduceIte, Nat.reduceSub, Nat.reduceAdd, Nat.reduceMul, Nat.reduceLT, Int.reduceAdd, Int.reduceSub, Int.reduceToNat, ci, vi, getO_i, vt, d1']
   refine (need_ok _).mono ?_ ?_
   . rintro v T' es ⟨h, -⟩
     cases h
   . rintro v T' es ⟨-, rfl, rfl, rfl⟩
     simp -dsimp +decide (disch := omega) only [vb, Tryd.mpf, vr, ty, en, ↓reduceIte, Nat.reduceSub, Nat.reduceAdd, Nat.reduceMul, Nat.reduceLT, Int.reduceAdd, Int.reduceSub, Int.reduceToNat, ci, vi, getO_i, vt]
     exact Vw.eff (E' := [(i, false)]) (by simp [rec1_in hil]) (Vw.done ⟨hec, rfl, ⟨r3, rfl⟩, rfl⟩)
 have d1' : ((56320 : Int) <= (n2 : Int)) = True := eq_true (by omega)
 by_cases d2 : n2 < 57344
 rotate_left
 . have d2' : ((n2 : Int) < 57344) = False := eq_false (by omega)
   rw [if_neg (fun h => d2 h.2)] at hec
   simp -dsimp +decide (disch := omega) only [vb, Tryd.mpf, vr, ty, en, ↓reduceIte, Nat.reduceSub, Nat.reduceAdd, Nat.reduceMul, Nat.reduceLT, Int.reduceAdd, Int.reduceSub, Int.reduceToNat, ci, vi, getO_i, vt, d1', d2']
   refine (need_ok _).mono ?_ ?_
   . rintro v T' es ⟨h, -⟩
     cases h
   . rintro v T' es ⟨-, rfl, rfl, rfl⟩
     simp -dsimp +decide (disch := omega) only [vb, Tryd.mpf, vr, ty, en, ↓reduceIte, Nat.reduceSub, Nat.reduceAdd, Nat.reduceMul, Nat.reduceLT, Int.reduceAdd, Int.reduceSub, Int.reduceToNat, ci, vi, getO_i, vt]
     exact Vw.eff (E' := [(i, false)]) (by simp [rec1_in hil]) (Vw.done ⟨hec, rfl, ⟨r3, rfl⟩, rfl⟩)
 have d2' : ((n2 : Int) < 57344) = True := eq_true (by omega)
 rw [if_pos ⟨d1, d2⟩] at hec
 simp -dsimp +decide (disch := omega) only [vb, Tryd.mpf, vr, ty, en, ↓reduceIte, Nat.reduceSub, Nat.reduceAdd, Nat.reduceMul, Nat.reduceLT, Int.reduceAdd, Int.reduceSub, Int.reduceToNat, ci, vi, getO_i, vt, d1', d2']
 refine (need_ok _).mono ?_ ?_
 rotate_left
 . rintro v T' es ⟨h, -⟩
   cases h
 rintro v T' es ⟨-, rfl, rfl, rfl⟩
 simp -dsimp +decide (disch := omega) only [vb, Tryd.mpf, vr, ty, en, ↓reduceIte, Nat.reduceSub, Nat.reduceAdd, Nat.reduceMul, Nat.reduceLT, Int.reduceAdd, Int.reduceSub, Int.reduceToNat, ci, vi, getO_i, vt]
 simp only [sur_eq c1.1 c1.2 d1 d2]
 have ho : okC (0x10000 + (n1 - 0xd800) * 1024 + (n2 - 0xdc00)) := ⟨by omega, by omega⟩
 have hN : 0x10000 + (n1 - 0xd800) * 1024 + (n2 - 0xdc00) < 2147483648 := by omega
 generalize hNe : 0x10000 + (n1 - 0xd800) * 1024 + (n2 - 0xdc00) = N at hec ho hN ⊢
 refine (vrune_ok (n := N) hN).det' ?_
 rw [decide_eq_true ho]
 simp -dsimp +decide (disch := omega) only [vb, Tryd.mpf, vr, ty, en, ↓reduceIte, Nat.reduceSub, Nat.reduceAdd, Nat.reduceMul, Nat.reduceLT, Int.reduceAdd, Int.reduceSub, Int.reduceToNat, ci, vi, getO_i, vt]
 refine (need_ok _).mono ?_ ?_
 rotate_left
 . rintro v T' es ⟨h, -⟩
   cases h
 rintro v T' es ⟨-, rfl, rfl, rfl⟩
 simp -dsimp +decide (disch := omega) only [vb, Tryd.mpf, vr, ty, en, ↓reduceIte, Nat.reduceSub, Nat.reduceAdd, Nat.reduceMul, Nat.reduceLT, Int.reduceAdd, Int.reduceSub, Int.reduceToNat, ci, vi, getO_i, vt]
 exact Vw.eff (E' := [(i, false)]) (by simp [rec1_in hil]) (Vw.done ⟨N, r3, hec, by rw [sur_eq c1.1 c1.2 d1 d2, hNe], rfl, rfl⟩)
end Go.Proofs.YtglpcedoongagaaDoor
namespace Go.Proofs.YtglpcedoongagaaDoor
open Go.E Go.Proofs.YtglpcedoongagaaDoor.Tryd Go.Proofs.Tryd Go.J
def bf (l : List UInt8) : AObj := .buf 5 1 (l.map by8)
theorem bf_wo (q : Nat -> Bool) (l : List UInt8) : (bf l).wo q = bf l := by
 rw [bf, AObj.wo, List.map_map]
 congr 1
theorem Vw.bf {G : Nat -> AV} {K : AV -> Tbl -> Eff -> Prop} {T l : Tbl} {j k : Nat} {A : List UInt8} {E : Eff} (wt : T.map (AObj.wo fun i => decide (T.length <= i)) = T) (hj : j < T.length) (h : K (.sl j 0 k) (T.set j (bf A)) E) : Vw G T K (.sl j 0 k) ((T ++ l).set j (bf A)) E := by
 rw [List.set_append_left _ _ hj]
 refine Vw.cutN T.length (Nat.le_refl _) ?_
 rw [List.take_left' (by simp), List.map_set, wt, bf_wo]
 have e : (AV.sl j 0 k).wo (fun i => decide (T.length <= i)) = .sl j 0 k := by
  rw [AV.wo, if_neg (by simp; omega)]
 rw [e]
 exact Vw.done h
theorem Vw.bf' {G : Nat -> AV} {K : AV -> Tbl -> Eff -> Prop} {T l : Tbl} {j k : Nat} {A : List UInt8} {E : Eff} {o : AObj} (ho : o = Go.Proofs.YtglpcedoongagaaDoor.bf A) (wt : T.map (AObj.wo fun i => decide (T.length <= i)) = T) (hj : j < T.length) (h : K (.sl j 0 k) (T.set j (Go.Proofs.YtglpcedoongagaaDoor.bf A)) E) : Vw G T K (.sl j 0 k) ((T ++ l).set j o) E := ho ▸ Vw.bf wt hj h
theorem ofI (n : Nat) : UInt8.ofInt (n : Int) = u8 n := by
 apply UInt8.toNat_inj.1
 have h1 := u8_wrap (n : Int)
 rw [IntKind.wrap_u8] at h1
 have h2 : (u8 n).toNat = n % 256 := by simp [u8]
 omega
theorem u8_mod (n : Nat) : u8 n = u8 (n % 256) := by
 apply UInt8.toNat_inj.1; simp [u8]
theorem b6 (n : Nat) : UInt8.ofInt 128 ||| u8 n &&& UInt8.ofInt 63 = u8 (0x80 + n % 64) := by
 have h : ∀ i : Fin 256, UInt8.ofInt 128 ||| u8 i.val &&& UInt8.ofInt 63 = u8 (0x80 + i.val % 64) := by decide +kernel
 have := h ⟨n % 256, Nat.mod_lt _ (by decide)⟩
 rw [u8_mod n, this]
 show u8 (128 + n % 256 % 64) = _
 rw [show n % 256 % 64 = n % 64 by omega]
theorem b5 {n : Nat} (h : n < 32) : UInt8.ofInt 192 ||| u8 n = u8 (0xc0 + n) := by
 have h' : ∀ i : Fin 32, UInt8.ofInt 192 ||| u8 i.val = u8 (0xc0 + i.val) := by decide +kernel
 exact h' ⟨n, h⟩
theorem b4 {n : Nat} (h : n < 16) : UInt8.ofInt 224 ||| u8 n = u8 (0xe0 + n) := by
 have h' : ∀ i : Fin 16, UInt8.ofInt 224 ||| u8 i.val = u8 (0xe0 + i.val) := by decide +kernel
 exact h' ⟨n, h⟩
theorem b3 {n : Nat} (h : n < 8) : UInt8.ofInt 240 ||| u8 n = u8 (0xf0 + n) := by
 have h' : ∀ i : Fin 8, UInt8.ofInt 240 ||| u8 i.val = u8 (0xf0 + i.val) := by decide +kernel
 exact h' ⟨n, h⟩
theorem fdv (n : Nat) : (n : Int).fdiv ((2 : Int) ^ min 6 IntKind.i32.bits) = ((n / 64 : Nat) : Int) /\ (n : Int).fdiv ((2 : Int) ^ min 12 IntKind.i32.bits) = ((n / 4096 : Nat) : Int) /\ (n : Int).fdiv ((2 : Int) ^ min 18 IntKind.i32.bits) = ((n / 262144 : Nat) : Int) := by
 refine ⟨?_, ?_, ?_⟩
 . rw [show (2 : Int) ^ min 6 IntKind.i32.bits = 64 from rfl, Int.fdiv_eq_ediv_of_nonneg _ (by decide)]; omega
 . rw [show (2 : Int) ^ min 12 IntKind.i32.bits = 4096 from rfl, Int.fdiv_eq_ediv_of_nonneg _ (by decide)]; omega
 . rw [show (2 : Int) ^ min 18 IntKind.i32.bits = 262144 from rfl, Int.fdiv_eq_ediv_of_nonneg _ (by decide)]; omega
theorem repb (a : AV) : (List.replicate 2 [a]).flatten = [a, a] /\ (List.replicate 3 [a]).flatten = [a, a, a] /\ (List.replicate 4 [a]).flatten = [a, a, a, a] := ⟨rfl, rfl, rfl⟩
theorem arna_ok {T : Tbl} {j n : Nat} {A : List UInt8} (hj : T[j]? = some (bf A)) (hA : A.length + 4 <= 140737488355328) (hn : okC n) (hn1 : ¬ n <= 127) (hq : T.map (AObj.wo fun x => x == j) = T) : CallA prog G 58 [.sl j 0 A.length, .p (.int .i32 (n : Nat))] T fun v T' es => v = .sl j 0 (A ++ enc n).length /\ T' = T.set j (bf (A ++ enc n)) /\ es = [(j, true)] := by
 refine CallA.wfs fun wf => ?_
 have wt := wf.t
 have hjl := (List.getElem?_eq_some_iff.1 hj).1
 have hnl : n <= 1114111 := hn.1
 rw [bf] at hj
 have hw : ((UInt32.ofInt (n : Int)).toNat : Int) = (n : Int) := by rw [<- u32_wrap, IntKind.wrap_u32]; omega
 have hj' : ∀ l : Tbl, (T ++ l)[j]? = some (.buf 5 1 (A.map by8)) := fun l => by rw [List.getElem?_append_left hjl]; exact hj
 refine CallA.eV 6 func58 ntmps58 results58 ?_
 simp -dsimp +decide only [vr, ty, en, ↓reduceIte, Nat.reduceSub, Nat.reduceAdd, Nat.reduceMul, Nat.reduceLT, Int.reduceAdd, Int.reduceSub, Int.reduceToNat, ci]
 simp only [hw]
 by_cases h2 : n <= 2047
 . have h2' : ((n : Int) <= 2047) = True := eq_true (by omega)
   have he : enc n = [u8 (0xc0 + n / 64), u8 (0x80 + n % 64)] := by
    rw [enc, if_neg (by have := hn.2; omega), if_neg (by omega), if_pos (by omega)]
   have k5 := b5 (n := n / 64) (by omega)
   simp -dsimp +decide (disch := omega) only [vr, ty, en, ↓reduceIte, Nat.reduceSub, Nat.reduceAdd, Nat.reduceMul, Nat.reduceLT, Int.reduceAdd, Int.reduceSub, Int.reduceToNat, ci, vi, getO_i, vt, h2', hj', bb2, fdv, repb, List.set_cons_zero, List.set_cons_succ, List.length_cons]
   refine ⟨rfl, ⟨by omega, by omega⟩, ?_⟩
   simp only [hq, rec1_in hjl, ofI, b6, k5]
   refine Vw.bf' (A := A ++ enc n) ?_ wt.2.1 hjl ⟨by rw [he, List.length_append]; rfl, rfl, rfl⟩
   rw [bf, List.map_append, he]
   simp only [List.take, List.map, AV.wo, by8]
 have h2' : ((n : Int) <= 2047) = False := eq_false (by omega)
 by_cases h3 : n <= 65535
 . have he : enc n = [u8 (0xe0 + n / 4096), u8 (0x80 + n / 64 % 64), u8 (0x80 + n % 64)] := by
    rw [enc, if_neg (by have := hn.2; omega), if_neg (by omega), if_neg (by omega), if_pos (by omega)]
   have k4 := b4 (n := n / 4096) (by omega)
   by_cases h4 : n < 55296
   . have h4' : ((n : Int) < 55296) = True := eq_true (by omega)
     simp -dsimp +decide (disch := omega) only [vr, ty, en, ↓reduceIte, Nat.reduceSub, Nat.reduceAdd, Nat.reduceMul, Nat.reduceLT, Int.reduceAdd, Int.reduceSub, Int.reduceToNat, ci, vi, getO_i, vt, hw, h2', h4', hj', bb2, fdv, repb, List.set_cons_zero, List.set_cons_succ, List.length_cons]
     refine ⟨rfl, ⟨by omega, by omega⟩, ?_⟩
     simp only [hq, rec1_in hjl, ofI, b6, k4]
     refine Vw.bf' (A := A ++ enc n) ?_ wt.2.1 hjl ⟨by rw [he, List.length_append]; rfl, rfl, rfl⟩
     rw [bf, List.map_append, he]
     simp only [List.take, List.map, AV.wo, by8]
   . have h4' : ((n : Int) < 55296) = False := eq_false (by omega)
     have h5' : ((57343 : Int) < (n : Int)) = True := eq_true (by have := hn.2; omega)
     have h3' : ((n : Int) <= 65535) = True := eq_true (by omega)
     simp -dsimp +decide (disch := omega) only [vr, ty, en, ↓reduceIte, Nat.reduceSub, Nat.reduceAdd, Nat.reduceMul, Nat.reduceLT, Int.reduceAdd, Int.reduceSub, Int.reduceToNat, ci, vi, getO_i, vt, hw, h2', h4', h5', h3', hj', bb2, fdv, repb, List.set_cons_zero, List.set_cons_succ, List.length_cons]
     refine ⟨rfl, ⟨by omega, by omega⟩, ?_⟩
     simp only [hq, rec1_in hjl, ofI, b6, k4]
     refine Vw.bf' (A := A ++ enc n) ?_ wt.2.1 hjl ⟨by rw [he, List.length_append]; rfl, rfl, rfl⟩
     rw [bf, List.map_append, he]
     simp only [List.take, List.map, AV.wo, by8]
 . have he : enc n = [u8 (0xf0 + n / 262144), u8 (0x80 + n / 4096 % 64), u8 (0x80 + n / 64 % 64), u8 (0x80 + n % 64)] := by
    rw [enc, if_neg (by have := hn.2; omega), if_neg (by omega), if_neg (by omega), if_neg (by omega)]
   have k3 := b3 (n := n / 262144) (by omega)
   have h4' : ((n : Int) < 55296) = False := eq_false (by omega)
   have h5' : ((57343 : Int) < (n : Int)) = True := eq_true (by omega)
   have h3' : ((n : Int) <= 65535) = False := eq_false (by omega)
   have h6' : ((65535 : Int) < (n : Int)) = True := eq_true (by omega)
   have h7' : ((n : Int) <= 1114111) = True := eq_true (by omega)
   simp -dsimp +decide (disch := omega) only [vr, ty, en, ↓reduceIte, Nat.reduceSub, Nat.reduceAdd, Nat.reduceMul, Nat.reduceLT, Int.reduceAdd, Int.reduceSub, Int.reduceToNat, ci, vi, getO_i, vt, hw, h2', h4', h5', h3', h6', h7', hj', bb2, fdv, repb, List.set_cons_zero, List.set_cons_succ, List.length_cons]
   refine ⟨rfl, ⟨by omega, by omega⟩, ?_⟩
   simp only [hq, rec1_in hjl, ofI, b6, k3]
   refine Vw.bf' (A := A ++ enc n) ?_ wt.2.1 hjl ⟨by rw [he, List.length_append]; rfl, rfl, rfl⟩
   rw [bf, List.map_append, he]
   simp only [List.take, List.map, AV.wo, by8]
theorem arun_ok {T : Tbl} {j n : Nat} {A : List UInt8} (hj : T[j]? = some (bf A)) (hA : A.length + 4 <= 140737488355328) (hn : okC n) (hq : T.map (AObj.wo fun x => x == j) = T) : CallA prog G 41 [.sl j 0 A.length, .p (.int .i32 (n : Nat))] T fun v T' es => v = .sl j 0 (A ++ enc n).length /\ T' = T.set j (bf (A ++ enc n)) /\ es = [(j, true)] := by
 refine CallA.wfs fun wf => ?_
 have wt := wf.t
 have hjl := (List.getElem?_eq_some_iff.1 hj).1
 have hnl : n <= 1114111 := hn.1
 have hj0 := hj
 rw [bf] at hj
 refine CallA.eV 5 func41 ntmps41 results41 ?_
 simp -dsimp +decide only [vr, ty, en, ↓reduceIte, Nat.reduceSub, Nat.reduceAdd, Nat.reduceMul, Nat.reduceLT, Int.reduceAdd, Int.reduceSub, Int.reduceToNat, ci]
 have hw : ((UInt32.ofInt (n : Int)).toNat : Int) = (n : Int) := by rw [<- u32_wrap, IntKind.wrap_u32]; omega
 have hj' : ∀ l : Tbl, (T ++ l)[j]? = some (.buf 5 1 (A.map by8)) := fun l => by rw [List.getElem?_append_left hjl]; exact hj
 simp only [hw]
 refine CondP.dec (fun h1 => ?_) (fun h1 => ?_)
 . simp -dsimp +decide (disch := omega) only [vr, ty, en, ↓reduceIte, Nat.reduceSub, Nat.reduceAdd, Nat.reduceMul, Nat.reduceLT, Int.reduceAdd, Int.reduceSub, Int.reduceToNat, ci, vi, getO_i, vt, hw, hj', bb2]
   refine ⟨⟨by omega, by omega⟩, ?_⟩
   rw [hq, rec1_in hjl]
   have he : enc n = [UInt8.ofInt (n : Int)] := by
    rw [enc, if_neg (by have := hn.2; omega), if_pos (by omega), ofI]
   refine Vw.bf wt.2.1 hjl ?_
   rw [he]
   exact ⟨by simp, rfl, rfl⟩
 . refine (arna_ok hj0 hA hn (by omega) hq).det' ?_
   simp -dsimp +decide (disch := omega) only [vr, ty, en, ↓reduceIte, Nat.reduceSub, Nat.reduceAdd, Nat.reduceMul, Nat.reduceLT, Int.reduceAdd, Int.reduceSub, Int.reduceToNat, ci, vi, getO_i, vt]
   exact Vw.done ⟨rfl, rfl, rec1_in hjl _ _⟩
end Go.Proofs.YtglpcedoongagaaDoor
namespace Go.Proofs.YtglpcedoongagaaDoor
open Go.E Go.Proofs.YtglpcedoongagaaDoor.Tryd Go.Proofs.Tryd Go.J
def firV (a : UInt8) : UInt8 :=
 if a.toNat < 0x80 then 0xf0 else if a.toNat < 0xc2 then 0xf1 else if a.toNat < 0xe0 then 2 else if a.toNat = 0xe0 then 0x13 else if a.toNat = 0xed then 0x23 else if a.toNat < 0xf0 then 3
 else if a.toNat = 0xf0 then 0x34 else if a.toNat < 0xf4 then 4 else if a.toNat = 0xf4 then 0x44 else 0xf1
theorem fir_get (a : UInt8) : (firL.map by8)[a.toNat]? = some (by8 (firV a)) := by
 have e : firL = (List.range 256).map fun i => firV (u8 i) := by decide +kernel
 rw [e, List.getElem?_map, List.getElem?_map, List.getElem?_range a.toNat_lt, Option.map_some, Option.map_some, u8_eq rfl]
def decR (l : B) : Nat × Nat := match l with
 | [] => (65533, 0)
 | _ => if (dec l).2 = 0 then (65533, 1) else dec l
theorem decR_one {a : UInt8} {r : B} (h : a.toNat < 0x80) : decR (a :: r) = (a.toNat, 1) := by
 show (if (dec (a :: r)).2 = 0 then _ else dec (a :: r)) = _
 rw [dec_one r h]; rfl
theorem slow_nil {T : Tbl} : CallA prog G 59 [bl []] T fun v T' es => v = .tu [.p (.int .i32 65533), .p (.int .i64 0)] /\ T' = T /\ es = [] := by
 refine CallA.eV 13 func59 ntmps59 results59 ?_
 simp -dsimp +decide only [vr, ty, en, ↓reduceIte, Nat.reduceSub, Nat.reduceAdd, Nat.reduceMul, Nat.reduceLT, Int.reduceAdd, Int.reduceSub, Int.reduceToNat, ci]
 have hl : (([] : List UInt8).length : Int) = 0 := rfl
 simp -dsimp +decide (disch := omega) only [vr, ty, en, ↓reduceIte, Nat.reduceSub, Nat.reduceAdd, Nat.reduceMul, Nat.reduceLT, Int.reduceAdd, Int.reduceSub, Int.reduceToNat, ci, vi, getO_i, vt, vbl, hl, vres, vone]
 exact Vw.done ⟨rfl, rfl, rfl⟩
def badF (z : Int) : Int := IntKind.i32.wrap ((BitVec.ofInt IntKind.i32.bits (IntKind.i32.wrap ((BitVec.ofInt IntKind.i32.bits (IntKind.i32.wrap z) &&&
 ~~~BitVec.ofInt IntKind.i32.bits ((IntKind.i32.wrap (IntKind.i32.wrap (UInt8.toNat 241 : Nat) * 2 ^ min 31 IntKind.i32.bits)).fdiv (2 ^ min 31 IntKind.i32.bits))).toNat : Nat)) |||
 BitVec.ofInt IntKind.i32.bits (IntKind.i32.wrap ((BitVec.ofInt IntKind.i32.bits 65533 &&& BitVec.ofInt IntKind.i32.bits ((IntKind.i32.wrap (IntKind.i32.wrap (UInt8.toNat 241 : Nat) * 2 ^ min 31 IntKind.i32.bits)).fdiv (2 ^ min 31 IntKind.i32.bits))).toNat : Nat))).toNat : Nat)
theorem badF_eq (a : UInt8) : badF (a.toNat : Int) = 65533 := by
 have h : ∀ i : Fin 256, badF ((i.val : Nat) : Int) = 65533 := by decide +kernel
 exact h ⟨a.toNat, a.toNat_lt⟩
theorem slow_bad {T : Tbl} {a : UInt8} {r : List UInt8} (h : (0x80 <= a.toNat /\ a.toNat < 0xc2) ∨ 0xf5 <= a.toNat) : CallA prog G 59 [bl (a :: r)] T fun v T' es => v = .tu [.p (.int .i32 65533), .p (.int .i64 1)] /\ T' = T /\ es = [] := by
 have hf : firV a = 0xf1 := by unfold firV; (repeat' split) <;> first | rfl | omega
 have hx := a.toNat_lt
 have hget := fir_get a
 rw [hf] at hget
 have h1 : ((((a :: r).length : Nat) : Int) < 1) = False := eq_false (by simp; omega)
 have h0 : (0 < (((a :: r).length : Nat) : Int)) = True := eq_true (by simp)
 have hg : ((a :: r).map by8)[0]? = some (by8 a) := rfl
 have hl0 : 0 < (a :: r).length := by simp
 refine CallA.eV 13 func59 ntmps59 results59 ?_
 simp -dsimp +decide only [vr, ty, en, ↓reduceIte, Nat.reduceSub, Nat.reduceAdd, Nat.reduceMul, Nat.reduceLT, Int.reduceAdd, Int.reduceSub, Int.reduceToNat, ci]
 simp -dsimp +decide (disch := omega) only [vr, ty, en, ↓reduceIte, Nat.reduceSub, Nat.reduceAdd, Nat.reduceMul, Nat.reduceLT, Int.reduceAdd, Int.reduceSub, Int.reduceToNat, ci, vi, getO_i, vt, vbl, h1, h0, hg, hl0, Gfir, hget, bb2, vres, vone, Int.toNat_natCast]
 refine ⟨by omega, Vw.done ⟨?_, rfl, rfl⟩⟩
 show AV.tu [AV.p (.int .i32 (badF (a.toNat : Int))), AV.p (.int .i64 1)] = _
 rw [badF_eq]
end Go.Proofs.YtglpcedoongagaaDoor
namespace Go.Proofs.YtglpcedoongagaaDoor
open Go.E Go.Proofs.YtglpcedoongagaaDoor.Tryd Go.Proofs.Tryd Go.J
theorem decR_bad {a : UInt8} {r : B} (h : dec (a :: r) = (0, 0)) : decR (a :: r) = (65533, 1) := by
 show (if (dec (a :: r)).2 = 0 then _ else dec (a :: r)) = _
 rw [h]; rfl
theorem decR_ok {a : UInt8} {r : B} (h : (dec (a :: r)).2 ≠ 0) : decR (a :: r) = dec (a :: r) := if_neg h
theorem and31 (a : UInt8) : (a &&& UInt8.ofInt 31).toNat = a.toNat % 32 := by
 have h : ∀ i : Fin 256, (u8 i.val &&& UInt8.ofInt 31).toNat = (u8 i.val).toNat % 32 := by decide +kernel
 have := h ⟨a.toNat, a.toNat_lt⟩
 rwa [u8_eq rfl] at this
theorem and63 (a : UInt8) : (a &&& UInt8.ofInt 63).toNat = a.toNat % 64 := by
 have h : ∀ i : Fin 256, (u8 i.val &&& UInt8.ofInt 63).toNat = (u8 i.val).toNat % 64 := by decide +kernel
 have := h ⟨a.toNat, a.toNat_lt⟩
 rwa [u8_eq rfl] at this
theorem or6 {n m : Nat} (hn : n < 32) (hm : m < 64) : IntKind.i32.wrap ((BitVec.ofInt IntKind.i32.bits (IntKind.i32.wrap (IntKind.i32.wrap (n : Int) * 2 ^ min 6 IntKind.i32.bits)) ||| BitVec.ofInt IntKind.i32.bits (IntKind.i32.wrap (m : Int))).toNat : Nat) = ((64 * n + m : Nat) : Int) := by
 have h : ∀ (i : Fin 32) (j : Fin 64), IntKind.i32.wrap ((BitVec.ofInt IntKind.i32.bits (IntKind.i32.wrap (IntKind.i32.wrap ((i.val : Nat) : Int) * 2 ^ min 6 IntKind.i32.bits)) ||| BitVec.ofInt IntKind.i32.bits (IntKind.i32.wrap ((j.val : Nat) : Int))).toNat : Nat) = ((64 * i.val + j.val : Nat) : Int) := by decide +kernel
 exact h ⟨n, hn⟩ ⟨m, hm⟩
theorem slow_two {T : Tbl} {a : UInt8} {r : List UInt8} (h : 0xc2 <= a.toNat) (h2 : a.toNat < 0xe0) : CallA prog G 59 [bl (a :: r)] T fun v T' es => v = .tu [.p (.int .i32 ((decR (a :: r)).1 : Nat)), .p (.int .i64 ((decR (a :: r)).2 : Nat))] /\ T' = T /\ es = [] := by
 refine CallA.wfs fun wf => ?_
 have wt := wf.t
 have hf : firV a = 2 := by unfold firV; (repeat' split) <;> first | rfl | omega
 have hx := a.toNat_lt
 have hget := fir_get a
 rw [hf] at hget
 have h1 : ((((a :: r).length : Nat) : Int) < 1) = False := eq_false (by simp; omega)
 have h0 : (0 < (((a :: r).length : Nat) : Int)) = True := eq_true (by simp)
 have hg : ((a :: r).map by8)[0]? = some (by8 a) := rfl
 have hl0 : 0 < (a :: r).length := by simp
 have hac : accL.map by8 = [by8 128, by8 191] ++ (accL.drop 2).map by8 := rfl
 refine CallA.eV 13 func59 ntmps59 results59 ?_
 simp -dsimp +decide only [vr, ty, en, ↓reduceIte, Nat.reduceSub, Nat.reduceAdd, Nat.reduceMul, Nat.reduceLT, Int.reduceAdd, Int.reduceSub, Int.reduceToNat, ci]
 simp -dsimp +decide (disch := omega) only [vr, ty, en, ↓reduceIte, Nat.reduceSub, Nat.reduceAdd, Nat.reduceMul, Nat.reduceLT, Int.reduceAdd, Int.reduceSub, Int.reduceToNat, ci, vi, getO_i, vt, vbl, h1, h0, hg, hl0, Gfir, Gacc, hget, hac, bb2, vres, vone, Int.toNat_natCast]
 refine ⟨by omega, ?_⟩
 have sz : IntKind.i64.wrap ((2 &&& UInt8.ofInt 7 : UInt8).toNat : Nat) = 2 := by decide
 have hs : (u8_shr 2 4).toNat * 2 = 0 := by decide
 have hcs : wrA [oB, oB] 0 (List.take 2 (List.drop 0 (AV.p (Value.int IntKind.u8 (UInt8.toNat 128 : Nat)) :: AV.p (Value.int IntKind.u8 (UInt8.toNat 191 : Nat)) :: List.map by8 (List.drop 2 accL)))) = [AV.p (.int .u8 (UInt8.toNat 128 : Nat)), AV.p (.int .u8 (UInt8.toNat 191 : Nat))] := rfl
 rw [hs, hcs, sz]
 refine CondP.dec (fun hc => ?_) (fun hc => ?_)
 . have hr : r = [] := by cases r with | nil => rfl | cons => simp at hc; omega
   subst hr
   rw [decR_bad (r := []) (by rw [dec_two [] h h2])]
   simp -dsimp +decide (disch := omega) only [vr, ty, en, ↓reduceIte, Nat.reduceSub, Nat.reduceAdd, Nat.reduceMul, Nat.reduceLT, Int.reduceAdd, Int.reduceSub, Int.reduceToNat, ci, vi, getO_i, vt, vres, vone]
   exact Vw.cut ⟨by simp only [AV.wo, AV.woL]; rfl, rfl, rfl⟩
 obtain ⟨x, r, rfl⟩ : ∃ x r', r = x :: r' := by cases r with | nil => simp at hc | cons x r => exact ⟨x, r, rfl⟩
 have hg1 : ((a :: x :: r).map by8)[1]? = some (by8 x) := rfl
 have h11 : (1 < (((a :: x :: r).length : Nat) : Int)) = True := eq_true (by simp; omega)
 have hl1 : 1 < (a :: x :: r).length := by simp
 have hl2 : ((2 : Int) <= 2) = True := eq_true (by decide)
 by_cases c1 : x.toNat < 128
 . have c1' : ((x.toNat : Int) < ((UInt8.toNat 128 : Nat) : Int)) = True := eq_true (by show (x.toNat : Int) < 128; omega)
   rw [decR_bad (by rw [dec_two _ h h2]; exact if_neg (by omega))]
   simp -dsimp +decide (disch := omega) only [vr, ty, en, ↓reduceIte, Nat.reduceSub, Nat.reduceAdd, Nat.reduceMul, Nat.reduceLT, Int.reduceAdd, Int.reduceSub, Int.reduceToNat, ci, vi, getO_i, vt, vbl, h11, hg1, hl1, bb2, vres, vone, c1']
   exact Vw.cut ⟨by simp only [AV.wo, AV.woL]; rfl, rfl, rfl⟩
 . have c1' : ((x.toNat : Int) < ((UInt8.toNat 128 : Nat) : Int)) = False := eq_false (by show ¬ (x.toNat : Int) < 128; omega)
   simp -dsimp +decide (disch := omega) only [vr, ty, en, ↓reduceIte, Nat.reduceSub, Nat.reduceAdd, Nat.reduceMul, Nat.reduceLT, Int.reduceAdd, Int.reduceSub, Int.reduceToNat, ci, vi, getO_i, vt, vbl, h11, hg1, hl1, bb2, vres, vone, c1']
   refine CondP.dec (fun hc => ?_) (fun hc => ?_)
   . have hc' : (191 : Int) < (x.toNat : Int) := hc
     rw [decR_bad (by rw [dec_two _ h h2]; exact if_neg (by omega))]
     simp -dsimp +decide (disch := omega) only [vr, ty, en, ↓reduceIte, Nat.reduceSub, Nat.reduceAdd, Nat.reduceMul, Nat.reduceLT, Int.reduceAdd, Int.reduceSub, Int.reduceToNat, ci, vi, getO_i, vt, vres, vone]
     exact Vw.cut ⟨by simp only [AV.wo, AV.woL]; rfl, rfl, rfl⟩
   . have hc' : ¬ (191 : Int) < (x.toNat : Int) := hc
     have hd : dec (a :: x :: r) = (64 * (a.toNat - 0xc0) + (x.toNat - 0x80), 2) := by rw [dec_two _ h h2]; exact if_pos (by omega)
     rw [decR_ok (by rw [hd]; exact Nat.succ_ne_zero 1), hd]
     simp -dsimp +decide (disch := omega) only [vr, ty, en, ↓reduceIte, Nat.reduceSub, Nat.reduceAdd, Nat.reduceMul, Nat.reduceLT, Int.reduceAdd, Int.reduceSub, Int.reduceToNat, ci, vi, getO_i, vt, vres, vone]
     rw [and31, and63, or6 (Nat.mod_lt _ (by decide)) (Nat.mod_lt _ (by decide)), show 64 * (a.toNat % 32) + x.toNat % 64 = 64 * (a.toNat - 0xc0) + (x.toNat - 0x80) by omega]
     exact Vw.cut ⟨by simp only [AV.wo, AV.woL]; rfl, rfl, rfl⟩
end Go.Proofs.YtglpcedoongagaaDoor
namespace Go.Proofs.YtglpcedoongagaaDoor
open Go.E Go.Proofs.YtglpcedoongagaaDoor.Tryd Go.Proofs.Tryd Go.J
theorem shlS {n s : Nat} (hs : s < 32) (h : n * 2 ^ s < 2147483648) : IntKind.i32.wrap (IntKind.i32.wrap (n : Int) * 2 ^ min s IntKind.i32.bits) = ((n * 2 ^ s : Nat) : Int) := by
 have h1 : n <= n * 2 ^ s := Nat.le_mul_of_pos_right n (Nat.two_pow_pos s)
 have e : min s IntKind.i32.bits = s := Nat.min_eq_left (Nat.le_of_lt hs)
 rw [i32_fit (n := n) (by omega), e, show (n : Int) * 2 ^ s = ((n * 2 ^ s : Nat) : Int) by rw [Int.natCast_mul, Int.natCast_pow]; rfl, i32_fit h]
theorem orW {a b : Nat} (ha : a < 2147483648) (hb : b < 2147483648) : IntKind.i32.wrap ((BitVec.ofInt IntKind.i32.bits (a : Int) ||| BitVec.ofInt IntKind.i32.bits (b : Int)).toNat : Nat) = ((a ||| b : Nat) : Int) := by
 show IntKind.i32.wrap ((BitVec.ofInt 32 (a : Int) ||| BitVec.ofInt 32 (b : Int)).toNat : Nat) = _
 rw [BitVec.ofInt_natCast, BitVec.ofInt_natCast, BitVec.toNat_or, BitVec.toNat_ofNat, BitVec.toNat_ofNat, Nat.mod_eq_of_lt (show a < 2 ^ 32 by omega), Nat.mod_eq_of_lt (show b < 2 ^ 32 by omega), i32_fit (Nat.or_lt_two_pow (n := 31) ha hb)]
theorem orAdd {a b s : Nat} (h : b < 2 ^ s) : a * 2 ^ s ||| b = a * 2 ^ s + b := by rw [<- Nat.shiftLeft_eq, Nat.shiftLeft_add_eq_or_of_lt h]
theorem and15 (a : UInt8) : (a &&& UInt8.ofInt 15).toNat = a.toNat % 16 := by
 have h : ∀ i : Fin 256, (u8 i.val &&& UInt8.ofInt 15).toNat = (u8 i.val).toNat % 16 := by decide +kernel
 have := h ⟨a.toNat, a.toNat_lt⟩
 rwa [u8_eq rfl] at this
theorem and7 (a : UInt8) : (a &&& UInt8.ofInt 7).toNat = a.toNat % 8 := by
 have h : ∀ i : Fin 256, (u8 i.val &&& UInt8.ofInt 7).toNat = (u8 i.val).toNat % 8 := by decide +kernel
 have := h ⟨a.toNat, a.toNat_lt⟩
 rwa [u8_eq rfl] at this
theorem or3 {n m k : Nat} (hn : n < 16) (hm : m < 64) (hk : k < 64) : IntKind.i32.wrap ((BitVec.ofInt IntKind.i32.bits (IntKind.i32.wrap ((BitVec.ofInt IntKind.i32.bits (IntKind.i32.wrap (IntKind.i32.wrap (n : Int) * 2 ^ min 12 IntKind.i32.bits)) ||| BitVec.ofInt IntKind.i32.bits (IntKind.i32.wrap (IntKind.i32.wrap (m : Int) * 2 ^ min 6 IntKind.i32.bits))).toNat : Nat)) |||
 BitVec.ofInt IntKind.i32.bits (IntKind.i32.wrap (k : Int))).toNat : Nat) = ((4096 * n + 64 * m + k : Nat) : Int) := by
 rw [shlS (n := n) (s := 12) (by decide) (by omega), shlS (n := m) (s := 6) (by decide) (by omega), orW (by omega) (by omega), orAdd (by omega), i32_fit (n := k) (by omega), orW (by omega) (by omega),
  show n * 2 ^ 12 + m * 2 ^ 6 = (64 * n + m) * 2 ^ 6 by omega, orAdd (by omega)]
 congr 1; omega
theorem or4 {n m k j : Nat} (hn : n < 8) (hm : m < 64) (hk : k < 64) (hj : j < 64) : IntKind.i32.wrap ((BitVec.ofInt IntKind.i32.bits (IntKind.i32.wrap ((BitVec.ofInt IntKind.i32.bits (IntKind.i32.wrap ((BitVec.ofInt IntKind.i32.bits (IntKind.i32.wrap (IntKind.i32.wrap (n : Int) * 2 ^ min 18 IntKind.i32.bits)) |||
 BitVec.ofInt IntKind.i32.bits (IntKind.i32.wrap (IntKind.i32.wrap (m : Int) * 2 ^ min 12 IntKind.i32.bits))).toNat : Nat)) ||| BitVec.ofInt IntKind.i32.bits (IntKind.i32.wrap (IntKind.i32.wrap (k : Int) * 2 ^ min 6 IntKind.i32.bits))).toNat : Nat)) |||
 BitVec.ofInt IntKind.i32.bits (IntKind.i32.wrap (j : Int))).toNat : Nat) = ((262144 * n + 4096 * m + 64 * k + j : Nat) : Int) := by
 rw [shlS (n := n) (s := 18) (by decide) (by omega), shlS (n := m) (s := 12) (by decide) (by omega), shlS (n := k) (s := 6) (by decide) (by omega), orW (by omega) (by omega), orAdd (by omega), orW (by omega) (by omega), show n * 2 ^ 18 + m * 2 ^ 12 = (64 * n + m) * 2 ^ 12 by omega, orAdd (by omega), i32_fit (n := j) (by omega), orW (by omega) (by omega),
  show (64 * n + m) * 2 ^ 12 + k * 2 ^ 6 = (64 * (64 * n + m) + k) * 2 ^ 6 by omega, orAdd (by omega)]
 congr 1; omega
theorem slow_three {T : Tbl} {a f lo hi : UInt8} {r : List UInt8} (h : 0xe0 <= a.toNat) (h2 : a.toNat < 0xf0) (hf : firV a = f) (hf1 : ¬ (240 : Int) <= (f.toNat : Int)) (hsz : IntKind.i64.wrap ((f &&& UInt8.ofInt 7 : UInt8).toNat : Nat) = 3) (hs : (u8_shr f 4).toNat < 15)
 (hac : List.take 2 (List.drop ((u8_shr f 4).toNat * 2) accL) = [lo, hi]) (hlo : lo.toNat = if a.toNat = 0xe0 then 0xa0 else 0x80) (hhi : hi.toNat = if a.toNat = 0xed then 0x9f else 0xbf) :
 CallA prog G 59 [bl (a :: r)] T fun v T' es => v = .tu [.p (.int .i32 ((decR (a :: r)).1 : Nat)), .p (.int .i64 ((decR (a :: r)).2 : Nat))] /\ T' = T /\ es = [] := by
 refine CallA.wfs fun wf => ?_
 have wt := wf.t
 have hx := a.toNat_lt
 have hget := fir_get a
 rw [hf] at hget
 have h1 : ((((a :: r).length : Nat) : Int) < 1) = False := eq_false (by simp; omega)
 have h0 : (0 < (((a :: r).length : Nat) : Int)) = True := eq_true (by simp)
 have hg : ((a :: r).map by8)[0]? = some (by8 a) := rfl
 have hl0 : 0 < (a :: r).length := by simp
 have hf2 := eq_false hf1
 have hal : accL.length = 32 := rfl
 have hd := dec_three r h h2
 refine CallA.eV 13 func59 ntmps59 results59 ?_
 simp -dsimp +decide only [vr, ty, en, ↓reduceIte, Nat.reduceSub, Nat.reduceAdd, Nat.reduceMul, Nat.reduceLT, Int.reduceAdd, Int.reduceSub, Int.reduceToNat, ci]
 simp -dsimp +decide (disch := omega) only [vr, ty, en, ↓reduceIte, Nat.reduceSub, Nat.reduceAdd, Nat.reduceMul, Nat.reduceLT, Int.reduceAdd, Int.reduceSub, Int.reduceToNat, ci, vi, getO_i, vt, vbl, h1, h0, hg, hl0, Gfir, Gacc, hget, hf2, hac, hal, hsz, bb2, vres, vone, Int.toNat_natCast]
 refine ⟨by omega, by omega, by omega, by simp, ?_⟩
 rw [show wrA [oB, oB] 0 (List.map by8 [lo, hi]) = [AV.p (.int .u8 (lo.toNat : Nat)), AV.p (.int .u8 (hi.toNat : Nat))] from rfl]
 refine CondP.dec (fun hc => ?_) (fun hc => ?_)
 . rw [decR_bad (by
    rw [hd]
    match r, hc with
    | [], _ => rfl
    | [_], _ => rfl
    | _ :: _ :: _, hc => simp at hc; omega)]
   simp -dsimp +decide (disch := omega) only [vr, ty, en, ↓reduceIte, Nat.reduceSub, Nat.reduceAdd, Nat.reduceMul, Nat.reduceLT, Int.reduceAdd, Int.reduceSub, Int.reduceToNat, ci, vi, getO_i, vt, vres, vone]
   exact Vw.cut ⟨by simp only [AV.wo, AV.woL]; rfl, rfl, rfl⟩
 obtain ⟨x, y, r, rfl⟩ : ∃ x y r', r = x :: y :: r' := by
  match r, hc with
  | [], hc => simp at hc
  | [_], hc => simp at hc
  | x :: y :: r, _ => exact ⟨x, y, r, rfl⟩
 have hg1 : ((a :: x :: y :: r).map by8)[1]? = some (by8 x) := rfl
 have hg2 : ((a :: x :: y :: r).map by8)[2]? = some (by8 y) := rfl
 have h11 : (1 < (((a :: x :: y :: r).length : Nat) : Int)) = True := eq_true (by simp; omega)
 have h12 : (2 < (((a :: x :: y :: r).length : Nat) : Int)) = True := eq_true (by simp; omega)
 have hl1 : 1 < (a :: x :: y :: r).length := by simp
 have hl2 : 2 < (a :: x :: y :: r).length := by simp
 have hl3 : ((3 : Int) <= 2) = False := eq_false (by decide)
 have hl4 : ((3 : Int) <= 3) = True := eq_true (by decide)
 dsimp only at hd
 have bad : ¬ (lo.toNat <= x.toNat /\ x.toNat <= hi.toNat /\ 0x80 <= y.toNat /\ y.toNat < 0xc0) -> decR (a :: x :: y :: r) = (65533, 1) := fun hn => decR_bad (by
  rw [hd, if_neg]; rw [<- hlo, <- hhi]; exact hn)
 by_cases c1 : x.toNat < lo.toNat
 . have c1' : ((x.toNat : Int) < (lo.toNat : Int)) = True := eq_true (by omega)
   rw [bad (by omega)]
   simp -dsimp +decide (disch := omega) only [vr, ty, en, ↓reduceIte, Nat.reduceSub, Nat.reduceAdd, Nat.reduceMul, Nat.reduceLT, Int.reduceAdd, Int.reduceSub, Int.reduceToNat, ci, vi, getO_i, vt, vbl, h11, hg1, hl1, bb2, vres, vone, c1']
   exact Vw.cut ⟨by simp only [AV.wo, AV.woL]; rfl, rfl, rfl⟩
 have c1' : ((x.toNat : Int) < (lo.toNat : Int)) = False := eq_false (by omega)
 simp -dsimp +decide (disch := omega) only [vr, ty, en, ↓reduceIte, Nat.reduceSub, Nat.reduceAdd, Nat.reduceMul, Nat.reduceLT, Int.reduceAdd, Int.reduceSub, Int.reduceToNat, ci, vi, getO_i, vt, vbl, h11, hg1, hl1, bb2, vres, vone, c1']
 refine CondP.dec (fun hc => ?_) (fun hc => ?_)
 . rw [bad (by omega)]
   simp -dsimp +decide (disch := omega) only [vr, ty, en, ↓reduceIte, Nat.reduceSub, Nat.reduceAdd, Nat.reduceMul, Nat.reduceLT, Int.reduceAdd, Int.reduceSub, Int.reduceToNat, ci, vi, getO_i, vt, vres, vone]
   exact Vw.cut ⟨by simp only [AV.wo, AV.woL]; rfl, rfl, rfl⟩
 simp -dsimp +decide (disch := omega) only [vr, ty, en, ↓reduceIte, Nat.reduceSub, Nat.reduceAdd, Nat.reduceMul, Nat.reduceLT, Int.reduceAdd, Int.reduceSub, Int.reduceToNat, ci, vi, getO_i, vt, vbl, hl3, h12, hg2, hl2, bb2, vres, vone]
 by_cases c2 : y.toNat < 128
 . have c2' : ((y.toNat : Int) < 128) = True := eq_true (by omega)
   rw [bad (by omega)]
   simp -dsimp +decide (disch := omega) only [vr, ty, en, ↓reduceIte, Nat.reduceSub, Nat.reduceAdd, Nat.reduceMul, Nat.reduceLT, Int.reduceAdd, Int.reduceSub, Int.reduceToNat, ci, vi, getO_i, vt, vbl, bb2, vres, vone, c2']
   exact Vw.cut ⟨by simp only [AV.wo, AV.woL]; rfl, rfl, rfl⟩
 have c2' : ((y.toNat : Int) < 128) = False := eq_false (by omega)
 simp -dsimp +decide (disch := omega) only [vr, ty, en, ↓reduceIte, Nat.reduceSub, Nat.reduceAdd, Nat.reduceMul, Nat.reduceLT, Int.reduceAdd, Int.reduceSub, Int.reduceToNat, ci, vi, getO_i, vt, vbl, bb2, vres, vone, c2']
 refine CondP.dec (fun hc => ?_) (fun hc => ?_)
 . rw [bad (by omega)]
   simp -dsimp +decide (disch := omega) only [vr, ty, en, ↓reduceIte, Nat.reduceSub, Nat.reduceAdd, Nat.reduceMul, Nat.reduceLT, Int.reduceAdd, Int.reduceSub, Int.reduceToNat, ci, vi, getO_i, vt, vres, vone]
   exact Vw.cut ⟨by simp only [AV.wo, AV.woL]; rfl, rfl, rfl⟩
 rw [if_pos (by rw [<- hlo, <- hhi]; omega)] at hd
 rw [decR_ok (by rw [hd]; exact Nat.succ_ne_zero 2), hd]
 have hb : 0x80 <= x.toNat /\ x.toNat <= 0xbf := by
  constructor
  . split at hlo <;> omega
  . split at hhi <;> omega
 simp -dsimp +decide (disch := omega) only [vr, ty, en, ↓reduceIte, Nat.reduceSub, Nat.reduceAdd, Nat.reduceMul, Nat.reduceLT, Int.reduceAdd, Int.reduceSub, Int.reduceToNat, ci, vi, getO_i, vt, vbl, hl4, bb2, vres, vone]
 rw [and15, and63, and63, or3 (Nat.mod_lt _ (by decide)) (Nat.mod_lt _ (by decide)) (Nat.mod_lt _ (by decide)), show 4096 * (a.toNat % 16) + 64 * (x.toNat % 64) + y.toNat % 64 = 4096 * (a.toNat - 0xe0) + 64 * (x.toNat - 0x80) + (y.toNat - 0x80) by omega]
 exact Vw.cut ⟨by simp only [AV.wo, AV.woL]; rfl, rfl, rfl⟩
end Go.Proofs.YtglpcedoongagaaDoor
namespace Go.Proofs.YtglpcedoongagaaDoor
open Go.E Go.Proofs.YtglpcedoongagaaDoor.Tryd Go.Proofs.Tryd Go.J
theorem slow_four {T : Tbl} {a f lo hi : UInt8} {r : List UInt8} (h : 0xf0 <= a.toNat) (h2 : a.toNat < 0xf5) (hf : firV a = f) (hf1 : ¬ (240 : Int) <= (f.toNat : Int)) (hsz : IntKind.i64.wrap ((f &&& UInt8.ofInt 7 : UInt8).toNat : Nat) = 4) (hs : (u8_shr f 4).toNat < 15)
 (hac : List.take 2 (List.drop ((u8_shr f 4).toNat * 2) accL) = [lo, hi]) (hlo : lo.toNat = if a.toNat = 0xf0 then 0x90 else 0x80) (hhi : hi.toNat = if a.toNat = 0xf4 then 0x8f else 0xbf) :
 CallA prog G 59 [bl (a :: r)] T fun v T' es => v = .tu [.p (.int .i32 ((decR (a :: r)).1 : Nat)), .p (.int .i64 ((decR (a :: r)).2 : Nat))] /\ T' = T /\ es = [] := by
 refine CallA.wfs fun wf => ?_
 have wt := wf.t
 have hx := a.toNat_lt
 have hget := fir_get a
 rw [hf] at hget
 have h1 : ((((a :: r).length : Nat) : Int) < 1) = False := eq_false (by simp; omega)
 have h0 : (0 < (((a :: r).length : Nat) : Int)) = True := eq_true (by simp)
 have hg : ((a :: r).map by8)[0]? = some (by8 a) := rfl
 have hl0 : 0 < (a :: r).length := by simp
 have hf2 := eq_false hf1
 have hal : accL.length = 32 := rfl
 have hd := dec_four r h h2
 refine CallA.eV 13 func59 ntmps59 results59 ?_
 simp -dsimp +decide only [vsk, vr, ty, en, ↓reduceIte, Nat.reduceSub, Nat.reduceAdd, Nat.reduceMul, Nat.reduceLT, Int.reduceAdd, Int.reduceSub, Int.reduceToNat, ci]
 simp -dsimp +decide (disch := omega) only [vsk, vr, ty, en, ↓reduceIte, Nat.reduceSub, Nat.reduceAdd, Nat.reduceMul, Nat.reduceLT, Int.reduceAdd, Int.reduceSub, Int.reduceToNat, ci, vi, getO_i, vt, vbl, h1, h0, hg, hl0, Gfir, Gacc, hget, hf2, hac, hal, hsz, bb2, vres, vone, Int.toNat_natCast]
 refine ⟨by omega, by omega, by omega, by simp, ?_⟩
 rw [show wrA [oB, oB] 0 (List.map by8 [lo, hi]) = [AV.p (.int .u8 (lo.toNat : Nat)), AV.p (.int .u8 (hi.toNat : Nat))] from rfl]
 refine CondP.dec (fun hc => ?_) (fun hc => ?_)
 . rw [decR_bad (by
    rw [hd]
    match r, hc with
    | [], _ => rfl
    | [_], _ => rfl
    | [_, _], _ => rfl
    | _ :: _ :: _ :: _, hc => simp at hc; omega)]
   simp -dsimp +decide (disch := omega) only [vsk, vr, ty, en, ↓reduceIte, Nat.reduceSub, Nat.reduceAdd, Nat.reduceMul, Nat.reduceLT, Int.reduceAdd, Int.reduceSub, Int.reduceToNat, ci, vi, getO_i, vt, vres, vone]
   exact Vw.cut ⟨by simp only [AV.wo, AV.woL]; rfl, rfl, rfl⟩
 obtain ⟨x, y, z, r, rfl⟩ : ∃ x y z r', r = x :: y :: z :: r' := by
  match r, hc with
  | [], hc => simp at hc
  | [_], hc => simp at hc
  | [_, _], hc => simp at hc
  | x :: y :: z :: r, _ => exact ⟨x, y, z, r, rfl⟩
 have hg1 : ((a :: x :: y :: z :: r).map by8)[1]? = some (by8 x) := rfl
 have hg2 : ((a :: x :: y :: z :: r).map by8)[2]? = some (by8 y) := rfl
 have h11 : (1 < (((a :: x :: y :: z :: r).length : Nat) : Int)) = True := eq_true (by simp; omega)
 have h12 : (2 < (((a :: x :: y :: z :: r).length : Nat) : Int)) = True := eq_true (by simp; omega)
 have hl1 : 1 < (a :: x :: y :: z :: r).length := by simp
 have hl2 : 2 < (a :: x :: y :: z :: r).length := by simp
 have hl3 : ((4 : Int) <= 2) = False := eq_false (by decide)
 have hl4 : ((4 : Int) <= 3) = False := eq_false (by decide)
 have hg3 : ((a :: x :: y :: z :: r).map by8)[3]? = some (by8 z) := rfl
 have h13 : (3 < (((a :: x :: y :: z :: r).length : Nat) : Int)) = True := eq_true (by simp; omega)
 have hl5 : 3 < (a :: x :: y :: z :: r).length := by simp
 dsimp only at hd
 have bad : ¬ (lo.toNat <= x.toNat /\ x.toNat <= hi.toNat /\ (0x80 <= y.toNat /\ y.toNat < 0xc0) /\ 0x80 <= z.toNat /\ z.toNat < 0xc0) -> decR (a :: x :: y :: z :: r) = (65533, 1) := fun hn => decR_bad (by
  rw [hd, if_neg]; rw [<- hlo, <- hhi]; exact hn)
 by_cases c1 : x.toNat < lo.toNat
 . have c1' : ((x.toNat : Int) < (lo.toNat : Int)) = True := eq_true (by omega)
   rw [bad (by omega)]
   simp -dsimp +decide (disch := omega) only [vsk, vr, ty, en, ↓reduceIte, Nat.reduceSub, Nat.reduceAdd, Nat.reduceMul, Nat.reduceLT, Int.reduceAdd, Int.reduceSub, Int.reduceToNat, ci, vi, getO_i, vt, vbl, h11, hg1, hl1, bb2, vres, vone, c1']
   exact Vw.cut ⟨by simp only [AV.wo, AV.woL]; rfl, rfl, rfl⟩
 have c1' : ((x.toNat : Int) < (lo.toNat : Int)) = False := eq_false (by omega)
 simp -dsimp +decide (disch := omega) only [vsk, vr, ty, en, ↓reduceIte, Nat.reduceSub, Nat.reduceAdd, Nat.reduceMul, Nat.reduceLT, Int.reduceAdd, Int.reduceSub, Int.reduceToNat, ci, vi, getO_i, vt, vbl, h11, hg1, hl1, bb2, vres, vone, c1']
 refine CondP.dec (fun hc => ?_) (fun hc => ?_)
 . rw [bad (by omega)]
   simp -dsimp +decide (disch := omega) only [vsk, vr, ty, en, ↓reduceIte, Nat.reduceSub, Nat.reduceAdd, Nat.reduceMul, Nat.reduceLT, Int.reduceAdd, Int.reduceSub, Int.reduceToNat, ci, vi, getO_i, vt, vres, vone]
   exact Vw.cut ⟨by simp only [AV.wo, AV.woL]; rfl, rfl, rfl⟩
 simp -dsimp +decide (disch := omega) only [vsk, vr, ty, en, ↓reduceIte, Nat.reduceSub, Nat.reduceAdd, Nat.reduceMul, Nat.reduceLT, Int.reduceAdd, Int.reduceSub, Int.reduceToNat, ci, vi, getO_i, vt, vbl, hl3, h12, hg2, hl2, bb2, vres, vone]
 by_cases c2 : y.toNat < 128
 . have c2' : ((y.toNat : Int) < 128) = True := eq_true (by omega)
   rw [bad (by omega)]
   simp -dsimp +decide (disch := omega) only [vsk, vr, ty, en, ↓reduceIte, Nat.reduceSub, Nat.reduceAdd, Nat.reduceMul, Nat.reduceLT, Int.reduceAdd, Int.reduceSub, Int.reduceToNat, ci, vi, getO_i, vt, vbl, bb2, vres, vone, c2']
   exact Vw.cut ⟨by simp only [AV.wo, AV.woL]; rfl, rfl, rfl⟩
 have c2' : ((y.toNat : Int) < 128) = False := eq_false (by omega)
 simp -dsimp +decide (disch := omega) only [vsk, vr, ty, en, ↓reduceIte, Nat.reduceSub, Nat.reduceAdd, Nat.reduceMul, Nat.reduceLT, Int.reduceAdd, Int.reduceSub, Int.reduceToNat, ci, vi, getO_i, vt, vbl, bb2, vres, vone, c2']
 refine CondP.dec (fun hc => ?_) (fun hc => ?_)
 . rw [bad (by omega)]
   simp -dsimp +decide (disch := omega) only [vsk, vr, ty, en, ↓reduceIte, Nat.reduceSub, Nat.reduceAdd, Nat.reduceMul, Nat.reduceLT, Int.reduceAdd, Int.reduceSub, Int.reduceToNat, ci, vi, getO_i, vt, vres, vone]
   exact Vw.cut ⟨by simp only [AV.wo, AV.woL]; rfl, rfl, rfl⟩
 simp -dsimp +decide (disch := omega) only [vsk, vr, ty, en, ↓reduceIte, Nat.reduceSub, Nat.reduceAdd, Nat.reduceMul, Nat.reduceLT, Int.reduceAdd, Int.reduceSub, Int.reduceToNat, ci, vi, getO_i, vt, vbl, hl4, h13, hg3, hl5, bb2, vres, vone]
 by_cases c3 : z.toNat < 128
 . have c3' : ((z.toNat : Int) < 128) = True := eq_true (by omega)
   rw [bad (by omega)]
   simp -dsimp +decide (disch := omega) only [vsk, vr, ty, en, ↓reduceIte, Nat.reduceSub, Nat.reduceAdd, Nat.reduceMul, Nat.reduceLT, Int.reduceAdd, Int.reduceSub, Int.reduceToNat, ci, vi, getO_i, vt, vbl, bb2, vres, vone, c3']
   exact Vw.cut ⟨by simp only [AV.wo, AV.woL]; rfl, rfl, rfl⟩
 have c3' : ((z.toNat : Int) < 128) = False := eq_false (by omega)
 simp -dsimp +decide (disch := omega) only [vsk, vr, ty, en, ↓reduceIte, Nat.reduceSub, Nat.reduceAdd, Nat.reduceMul, Nat.reduceLT, Int.reduceAdd, Int.reduceSub, Int.reduceToNat, ci, vi, getO_i, vt, vbl, bb2, vres, vone, c3']
 refine CondP.dec (fun hc => ?_) (fun hc => ?_)
 . rw [bad (by omega)]
   simp -dsimp +decide (disch := omega) only [vsk, vr, ty, en, ↓reduceIte, Nat.reduceSub, Nat.reduceAdd, Nat.reduceMul, Nat.reduceLT, Int.reduceAdd, Int.reduceSub, Int.reduceToNat, ci, vi, getO_i, vt, vres, vone]
   exact Vw.cut ⟨by simp only [AV.wo, AV.woL]; rfl, rfl, rfl⟩
 rw [if_pos (by rw [<- hlo, <- hhi]; omega)] at hd
 rw [decR_ok (by rw [hd]; exact Nat.succ_ne_zero 3), hd]
 have hb : 0x80 <= x.toNat /\ x.toNat <= 0xbf := by
  constructor
  . split at hlo <;> omega
  . split at hhi <;> omega
 simp -dsimp +decide (disch := omega) only [vsk, vr, ty, en, ↓reduceIte, Nat.reduceSub, Nat.reduceAdd, Nat.reduceMul, Nat.reduceLT, Int.reduceAdd, Int.reduceSub, Int.reduceToNat, ci, vi, getO_i, vt, vbl, bb2, vres, vone]
 rw [and7, and63, and63, and63, or4 (Nat.mod_lt _ (by decide)) (Nat.mod_lt _ (by decide)) (Nat.mod_lt _ (by decide)) (Nat.mod_lt _ (by decide)), show 262144 * (a.toNat % 8) + 4096 * (x.toNat % 64) + 64 * (y.toNat % 64) + z.toNat % 64 = 262144 * (a.toNat - 0xf0) + 4096 * (x.toNat - 0x80) + 64 * (y.toNat - 0x80) + (z.toNat - 0x80) by omega]
 exact Vw.cut ⟨by simp only [AV.wo, AV.woL]; rfl, rfl, rfl⟩
theorem firV_range (a : UInt8) (h : 0xe0 <= a.toNat) (h2 : a.toNat < 0xf5) : ∃ lo hi : UInt8, List.take 2 (List.drop ((u8_shr (firV a) 4).toNat * 2) accL) = [lo, hi] /\ (u8_shr (firV a) 4).toNat < 15 /\ (¬ (240 : Int) <= ((firV a).toNat : Int)) /\
 (a.toNat < 0xf0 -> IntKind.i64.wrap ((firV a &&& UInt8.ofInt 7 : UInt8).toNat : Nat) = 3 /\ (lo.toNat = if a.toNat = 0xe0 then 0xa0 else 0x80) /\ hi.toNat = if a.toNat = 0xed then 0x9f else 0xbf) /\
 (0xf0 <= a.toNat -> IntKind.i64.wrap ((firV a &&& UInt8.ofInt 7 : UInt8).toNat : Nat) = 4 /\ (lo.toNat = if a.toNat = 0xf0 then 0x90 else 0x80) /\ hi.toNat = if a.toNat = 0xf4 then 0x8f else 0xbf) := by
 suffices H : ∃ f lo hi : UInt8, firV a = f /\ List.take 2 (List.drop ((u8_shr f 4).toNat * 2) accL) = [lo, hi] /\ (u8_shr f 4).toNat < 15 /\ (¬ (240 : Int) <= (f.toNat : Int)) /\
  (a.toNat < 0xf0 -> IntKind.i64.wrap ((f &&& UInt8.ofInt 7 : UInt8).toNat : Nat) = 3 /\ (lo.toNat = if a.toNat = 0xe0 then 0xa0 else 0x80) /\ hi.toNat = if a.toNat = 0xed then 0x9f else 0xbf) /\
  (0xf0 <= a.toNat -> IntKind.i64.wrap ((f &&& UInt8.ofInt 7 : UInt8).toNat : Nat) = 4 /\ (lo.toNat = if a.toNat = 0xf0 then 0x90 else 0x80) /\ hi.toNat = if a.toNat = 0xf4 then 0x8f else 0xbf) by
  obtain ⟨f, lo, hi, e, h⟩ := H
  exact ⟨lo, hi, by rw [e]; exact h⟩
 rcases (show a.toNat = 0xe0 ∨ a.toNat = 0xed ∨ (a.toNat < 0xf0 /\ a.toNat ≠ 0xe0 /\ a.toNat ≠ 0xed) ∨ a.toNat = 0xf0 ∨ a.toNat = 0xf4 ∨ (0xf0 < a.toNat /\ a.toNat < 0xf4) by omega) with e | e | ⟨e, e1, e2⟩ | e | e | ⟨e, e1⟩
 . exact ⟨0x13, 160, 191, by unfold firV; (repeat' split) <;> first | rfl | omega, by decide, by decide, by decide, fun _ => ⟨by decide, by rw [if_pos e]; rfl, by rw [if_neg (by omega)]; rfl⟩, fun _ => by omega⟩
 . exact ⟨0x23, 128, 159, by unfold firV; (repeat' split) <;> first | rfl | omega, by decide, by decide, by decide, fun _ => ⟨by decide, by rw [if_neg (by omega)]; rfl, by rw [if_pos e]; rfl⟩, fun _ => by omega⟩
 . exact ⟨3, 128, 191, by unfold firV; (repeat' split) <;> first | rfl | omega, by decide, by decide, by decide, fun _ => ⟨by decide, by rw [if_neg e1]; rfl, by rw [if_neg e2]; rfl⟩, fun _ => by omega⟩
 . exact ⟨0x34, 144, 191, by unfold firV; (repeat' split) <;> first | rfl | omega, by decide, by decide, by decide, fun _ => by omega, fun _ => ⟨by decide, by rw [if_pos e]; rfl, by rw [if_neg (by omega)]; rfl⟩⟩
 . exact ⟨0x44, 128, 143, by unfold firV; (repeat' split) <;> first | rfl | omega, by decide, by decide, by decide, fun _ => by omega, fun _ => ⟨by decide, by rw [if_neg (by omega)]; rfl, by rw [if_pos e]; rfl⟩⟩
 . exact ⟨4, 128, 191, by unfold firV; (repeat' split) <;> first | rfl | omega, by decide, by decide, by decide, fun _ => by omega, fun _ => ⟨by decide, by rw [if_neg (by omega)]; rfl, by rw [if_neg (by omega)]; rfl⟩⟩
theorem slow_ok {T : Tbl} {l : List UInt8} (h : ∀ a r, l = a :: r -> 0x80 <= a.toNat) : CallA prog G 59 [bl l] T fun v T' es => v = .tu [.p (.int .i32 ((decR l).1 : Nat)), .p (.int .i64 ((decR l).2 : Nat))] /\ T' = T /\ es = [] := by
 cases l with
 | nil => exact slow_nil
 | cons a r =>
   have ha := h a r rfl
   by_cases h1 : a.toNat < 0xc2 ∨ 0xf5 <= a.toNat
   . rw [decR_bad (dec_bad r (by omega))]
     exact slow_bad (by omega)
   by_cases h2 : a.toNat < 0xe0
   . exact slow_two (by omega) h2
   obtain ⟨lo, hi, e1, e2, e3, e4, e5⟩ := firV_range a (by omega) (by omega)
   by_cases h3 : a.toNat < 0xf0
   . obtain ⟨g1, g2, g3⟩ := e4 h3
     exact slow_three (by omega) h3 rfl e3 g1 e2 e1 g2 g3
   . obtain ⟨g1, g2, g3⟩ := e5 (by omega)
     exact slow_four (by omega) (by omega) rfl e3 g1 e2 e1 g2 g3
theorem drune_ok {T : Tbl} {l : List UInt8} : CallA prog G 42 [bl l] T fun v T' es => v = .tu [.p (.int .i32 ((decR l).1 : Nat)), .p (.int .i64 ((decR l).2 : Nat))] /\ T' = T /\ es = [] := by
 refine CallA.eV 9 func42 ntmps42 results42 ?_
 simp -dsimp +decide only [vsk, vr, ty, en, ↓reduceIte, Nat.reduceSub, Nat.reduceAdd, Nat.reduceMul, Nat.reduceLT, Int.reduceAdd, Int.reduceSub, Int.reduceToNat, ci]
 simp -dsimp +decide (disch := omega) only [vsk, vr, ty, en, ↓reduceIte, Nat.reduceSub, Nat.reduceAdd, Nat.reduceMul, Nat.reduceLT, Int.reduceAdd, Int.reduceSub, Int.reduceToNat, ci, vi, getO_i, vt, vbl]
 refine SemA.loopS (fun _ : Unit => [(0, bl l), (6, bl l), (7, wint (l.length : Int)), (8, wint 0)]) (fun _ => T) (fun _ => True) (fun _ => 0) () [] 0
  (fun _ : Unit => [(0, bl l)]) (fun _ => T) (fun _ => ∀ a r, l = a :: r -> 0x80 <= a.toNat) trivial ⟨rfl, rfl, rfl, rfl, rfl⟩ rfl (by simp) ?_ ?_
 . rintro _ g -
   refine SemA.o ?_
   cases l with
   | nil =>
     have hl : (0 < (([] : List UInt8).length : Int)) = False := eq_false (by decide)
     simp -dsimp +decide (disch := omega) only [vsk, vr, ty, en, ↓reduceIte, Nat.reduceSub, Nat.reduceAdd, Nat.reduceMul, Nat.reduceLT, Int.reduceAdd, Int.reduceSub, Int.reduceToNat, ci, vi, getO_i, vt, vbl, hl, bb2]
     exact ⟨(), (fun _ _ h => by cases h), SeeL.done ⟨rfl, ⟨rfl, rfl⟩, rfl, by simp⟩⟩
   | cons a r =>
     have h0 : (0 < (((a :: r).length : Nat) : Int)) = True := eq_true (by simp)
     have hg : ((a :: r).map by8)[0]? = some (by8 a) := rfl
     have hl0 : 0 < (a :: r).length := by simp
     simp -dsimp +decide (disch := omega) only [vsk, vr, ty, en, ↓reduceIte, Nat.reduceSub, Nat.reduceAdd, Nat.reduceMul, Nat.reduceLT, Int.reduceAdd, Int.reduceSub, Int.reduceToNat, ci, vi, getO_i, vt, vbl, h0, hg, hl0, bb2]
     refine CondP.dec (fun hc => ?_) (fun hc => ?_)
     . simp -dsimp +decide (disch := omega) only [vsk, vr, ty, en, ↓reduceIte, Nat.reduceSub, Nat.reduceAdd, Nat.reduceMul, Nat.reduceLT, Int.reduceAdd, Int.reduceSub, Int.reduceToNat, ci, vi, getO_i, vt, vbl, h0, hg, hl0, vres, vone]
       rw [decR_one (by omega), i32_fit (n := a.toNat) (by omega)]
       exact Vw.done ⟨rfl, rfl, rfl⟩
     . simp -dsimp +decide (disch := omega) only [vsk, vr, ty, en, ↓reduceIte, Nat.reduceSub, Nat.reduceAdd, Nat.reduceMul, Nat.reduceLT, Int.reduceAdd, Int.reduceSub, Int.reduceToNat, ci, vi, getO_i, vt, vbl]
       exact ⟨(), (fun _ _ h => by cases h; omega), SeeL.done ⟨rfl, ⟨rfl, rfl⟩, rfl, by simp⟩⟩
 . rintro _ g tmp hs
   simp -dsimp +decide (disch := omega) only [vsk, vr, ty, en, ↓reduceIte, Nat.reduceSub, Nat.reduceAdd, Nat.reduceMul, Nat.reduceLT, Int.reduceAdd, Int.reduceSub, Int.reduceToNat, ci, vi, getO_i, vt, vbl]
   refine (slow_ok hs).det' ?_
   simp -dsimp +decide (disch := omega) only [vsk, vr, ty, en, ↓reduceIte, Nat.reduceSub, Nat.reduceAdd, Nat.reduceMul, Nat.reduceLT, Int.reduceAdd, Int.reduceSub, Int.reduceToNat, ci, vi, getO_i, vt, vres, vone]
   exact Vw.done ⟨rfl, rfl, rfl⟩
end Go.Proofs.YtglpcedoongagaaDoor
namespace Go.E
section
variable {P : Program} {G : GG} {T : Tbl} {E : Eff} {N n m : Nat} {ro : Option Nat} {ds loc : List AV} {tmp : List (Nat × AV)} {Nk R : AKont} {X : Nat -> AKont}
theorem SemB.adopt {c : Code} (j : Nat) (El : TypeId) (sz : Nat) (h0 : 0 < sz) (hj : loc[j]? = some (.p (.slice none 0 0)))
 (h : SemB P G N ro n m c ds (loc.set j (.sl T.length 0 0)) tmp (T ++ [.buf El sz []]) E Nk X R) : SemB P G N ro n m c ds loc tmp T E Nk X R := by
 refine SemB.view ?_ h
 intro Z0 ρ0 T0 w0 Z ρ w dv lv tv hN hf ha
 obtain ⟨k1, k2⟩ := hf.st.push (w' := w) ⟨none, 0, true⟩ (.buf El sz []) hf.st.of (fun _ _ => rfl) ⟨⟨rfl, h0⟩, 0, by simp, Nat.le_refl _, .inl ⟨rfl, rfl, rfl⟩⟩ (fun b hb => by cases hb)
 have h1 := hf.step k1 k2
 have h2 := ha.step k2
 refine ⟨_, _, h1, ⟨h2.ds, ?_, h2.tmp⟩⟩
 obtain ⟨v, hv, hr⟩ := ha.loc.get hj
 have := hr.p_inv; subst this
 have h3 := h2.loc.set (a := .sl T.length 0 0) (v := .slice none 0 0) (.sl (x := ⟨none, 0, true⟩) (by rw [<- hf.st.len]; simp) (fun _ => rfl) (Nat.le_refl _) (fun _ _ => rfl)) j
 have e : lv.set j (.slice none 0 0) = lv := by
  refine List.ext_getElem? fun i => ?_
  rw [List.getElem?_set]
  by_cases hi : j = i
  . subst hi
    obtain ⟨hl, he⟩ := List.getElem?_eq_some_iff.1 hv
    rw [if_pos rfl, if_pos hl, hv]
  . rw [if_neg hi]
 rw [e] at h3
 exact h3
end
theorem vni (P : Program) : (∀ op t u v b xo yo T K, bin2A P op t (.ic u v) b xo yo T K = binA P op t (.ic u v) b xo yo K) /\ (∀ op t u v xo yo K, binA P op t (.ic u v) (.p .nilIface) xo yo K = nilI (tk P t) op K) /\
 (∀ ms K, nilI (.interface ms) .eql K = K (.p (.bool false))) /\ (∀ ms K, nilI (.interface ms) .neq K = K (.p (.bool true))) := ⟨fun _ _ _ _ b _ _ _ _ => by cases b <;> rfl, fun _ _ _ _ _ _ _ => rfl, fun _ _ => rfl, fun _ _ => rfl⟩
theorem vnn {P : Program} {t : TypeId} {ms : Array (String × TypeId)} (ht : tk P t = .interface ms) : (∀ xo c K, pureK P K (do eqGuard .eql t xo (.const c) .nilIface .nilIface; binOp .eql t .nilIface .nilIface) = K (.p (.bool true))) /\
 (∀ xo c K, pureK P K (do eqGuard .neq t xo (.const c) .nilIface .nilIface; binOp .neq t .nilIface .nilIface) = K (.p (.bool false))) := by
 have h : ∀ w, (Op.equal t .nilIface .nilIface).run P w = .ok true w := fun w => by
  unfold Op.equal
  rw [show Op.maxDepth = 9999 + 1 from rfl, Op.equalIn]
  simp only [Sem.run_bind, tis_of ht rfl]
  rfl
 refine ⟨fun xo c K => ?_, fun xo c K => ?_⟩
 . exact pureK_det fun w => run_guarded (by simp [eqGuard]) (by simp only [binOp, Sem.run_bind, h w]; rfl)
 . exact pureK_det fun w => run_guarded (by simp [eqGuard]) (by simp only [binOp, Sem.run_bind, h w]; rfl)
end Go.E
namespace Go.Proofs.YtglpcedoongagaaDoor
open Go.E Go.Proofs.YtglpcedoongagaaDoor.Tryd Go.Proofs.Tryd Go.J
def txtQ (l : B) : Option (B × B) := if l.head? = some 34 then txtF l.tail [] else none
theorem set_app {T l : Tbl} {i : Nat} (h : i < T.length) (o : AObj) : (T ++ l).set i o = T.set i o ++ l := List.set_append_left _ _ h
theorem get_app {T l : Tbl} {i : Nat} (h : i < T.length) : (T ++ l)[i]? = T[i]? := List.getElem?_append_left h
theorem rdr_wo (q : Nat -> Bool) (l : List UInt8) : (rdr l).wo q = rdr l := by rw [rdr, AObj.wo, List.map_cons, List.map_nil, bl_wo]
theorem set_wo {T : Tbl} {q : Nat -> Bool} (h : T.map (AObj.wo q) = T) (i : Nat) (l : List UInt8) : (T.set i (rdr l)).map (AObj.wo q) = T.set i (rdr l) := by rw [List.map_set, h, rdr_wo]
theorem Vw.drop {G : Nat -> AV} {T0 T1 l : Tbl} {E : Eff} {K : AV -> Tbl -> Eff -> Prop} {v : AV} (hlen : T1.length = T0.length) (hw : T1.map (AObj.wo (T0.length <= ·)) = T1) (h : K (v.wo (T0.length <= ·)) T1 E) : Vw G T0 K v (T1 ++ l) E :=
 Vw.cutN T0.length (Nat.le_refl _) (by rw [List.take_left' hlen, hw]; exact Vw.done h)
theorem eno_wo (q : Nat -> Bool) (e : Int) : (eno e).wo q = eno e := by rw [eno, AV.wo, AV.wo]
theorem txtF_bad {m out : B} (h1 : m.head? ≠ some 34) (h2 : m.head? ≠ some 92) (h : (dec m).2 = 0 ∨ (dec m).1 < 32) : txtF m out = none := by rw [txtF_eq, if_neg h1, if_neg h2, if_pos h]
theorem txtF_go {m out : B} (h1 : m.head? ≠ some 34) (h2 : m.head? ≠ some 92) (h : ¬ ((dec m).2 = 0 ∨ (dec m).1 < 32)) : txtF m out = txtF (m.drop (dec m).2) (out ++ m.take (dec m).2) := by rw [txtF_eq, if_neg h1, if_neg h2, if_neg h]
theorem run_bad {m : B} : ((dec m).2 = 0 ∨ (dec m).1 < 32) ↔ ((decR m).2 = 0 ∨ (decR m).1 < 32 ∨ ((decR m).1 = 65533 /\ (decR m).2 <= 1)) := by
 cases m with
 | nil => exact ⟨fun _ => .inl rfl, fun _ => .inl rfl⟩
 | cons a r =>
   by_cases h : (dec (a :: r)).2 = 0
   . have : decR (a :: r) = (65533, 1) := if_pos h
     rw [this]
     exact ⟨fun _ => .inr (.inr ⟨rfl, Nat.le_refl _⟩), fun _ => .inl h⟩
   . rw [decR_ok h]
     refine ⟨fun h' => h'.elim (fun e => .inl e) fun e => .inr (.inl e), ?_⟩
     rintro (e | e | ⟨e1, e2⟩)
     . exact .inl e
     . exact .inr e
     . exfalso
       obtain ⟨ok, hn, -⟩ := dec_spec (l := a :: r) (c := (dec (a :: r)).1) (n := (dec (a :: r)).2) rfl (by omega)
       rcases enc_cases ok with h1 | h1 | h1 | h1 <;> omega
theorem decR_lt (m : B) : (decR m).1 < 2147483648 /\ (decR m).2 <= 4 /\ (decR m).2 <= m.length := by
 cases m with
 | nil => exact ⟨by show 65533 < 2147483648; decide, by show 0 <= 4; decide, Nat.le_refl _⟩
 | cons a r =>
   by_cases h : (dec (a :: r)).2 = 0
   . have : decR (a :: r) = (65533, 1) := if_pos h
     rw [this]
     exact ⟨by show 65533 < 2147483648; decide, by show 1 <= 4; decide, by show 1 <= _; simp⟩
   . rw [decR_ok h]
     obtain ⟨ok, hn, r', hr⟩ := dec_spec (l := a :: r) (c := (dec (a :: r)).1) (n := (dec (a :: r)).2) rfl (by omega)
     have hl := congrArg List.length hr
     rw [List.length_append] at hl
     have := ok.1
     rcases enc_cases ok with h1 | h1 | h1 | h1 <;> exact ⟨by omega, by omega, by omega⟩
theorem set_rb {T l : Tbl} {i : Nat} (h : i < T.length) (a o : AObj) : (T.set i a ++ l).set i o = T.set i o ++ l := by rw [set_app (by rw [List.length_set]; exact h), List.set_set]
theorem get_rb {T l : Tbl} {i : Nat} (h : i < T.length) (a : AObj) : (T.set i a ++ l)[i]? = some a := by rw [get_app (by rw [List.length_set]; exact h), List.getElem?_set_self h]
theorem get_rl {T : Tbl} {i : Nat} (a o : AObj) : (T.set i a ++ [o])[T.length]? = some o := by rw [List.getElem?_append_right (by rw [List.length_set]; exact Nat.le_refl _), List.length_set, Nat.sub_self]; rfl
theorem set_rl {T : Tbl} {i : Nat} (a o x : AObj) : (T.set i a ++ [o]).set T.length x = T.set i a ++ [x] := by rw [List.set_append_right _ _ (by rw [List.length_set]; exact Nat.le_refl _), List.length_set, Nat.sub_self]; rfl
theorem text_ok {T : Tbl} {i : Nat} {l : List UInt8} (hl : l.length <= 1099511627776) (hi : T[i]? = some (rdr l)) : CallP prog G 26 [.ptr i 0] T
 (fun v T' es => ∃ s r, txtQ l = some (s, r) /\ v = str s /\ T' = T.set i (rdr r) /\ es = [(i, false)]) (fun v T' es => txtQ l = none /\ v = eno 5 /\ (∃ m, T' = T.set i (rdr m)) /\ es = [(i, false)]) := by
 refine CallP.wf fun wf => ?_
 have hil := (List.getElem?_eq_some_iff.1 hi).1
 refine CallP.enterV Tryd.mp 7 func26 ntmps26 (congrArg Array.toList results26) rfl ⟨by simp, by simp⟩ (by kernel_rfl) (by kernel_rfl) ?_
 simp -dsimp +decide only [vb, Tryd.mpf, vsk, vr, ty, en, ↓reduceIte, Nat.reduceSub, Nat.reduceAdd, Nat.reduceMul, Nat.reduceLT, Int.reduceAdd, Int.reduceSub, Int.reduceToNat, ci]
 refine (is_ok (c := 34) hi).det' ?_
 simp -dsimp +decide (disch := omega) only [vb, Tryd.mpf, vsk, vr, ty, en, ↓reduceIte, Nat.reduceSub, Nat.reduceAdd, Nat.reduceMul, Nat.reduceLT, Int.reduceAdd, Int.reduceSub, Int.reduceToNat, ci, vi, getO_i, vt]
 by_cases hq : l.head? = some 34
 rotate_left
 . rw [decide_eq_false hq, if_neg hq, set_self hi]
   refine (need_ok _).mono ?_ ?_
   . rintro v T' es ⟨h, -⟩
     cases h
   . rintro v T' es ⟨-, rfl, rfl, rfl⟩
     simp -dsimp +decide (disch := omega) only [vb, Tryd.mpf, vsk, vr, ty, en, ↓reduceIte, Nat.reduceSub, Nat.reduceAdd, Nat.reduceMul, Nat.reduceLT, Int.reduceAdd, Int.reduceSub, Int.reduceToNat, ci, vi, getO_i, vt]
     refine Vw.eff (E' := [(i, false)]) (by simp [rec1_in hil]) (Vw.done ⟨if_neg hq, rfl, ⟨l, (set_self hi).symm⟩, rfl⟩)
 have eq : txtQ l = txtF l.tail [] := if_pos hq
 rw [eq, decide_eq_true hq, if_pos hq]
 refine (need_ok _).mono ?_ ?_
 rotate_left
 . rintro v T' es ⟨h, -⟩
   cases h
 rintro v T' es ⟨-, rfl, rfl, rfl⟩
 simp -dsimp +decide (disch := omega) only [vb, Tryd.mpf, vsk, vr, ty, en, ↓reduceIte, Nat.reduceSub, Nat.reduceAdd, Nat.reduceMul, Nat.reduceLT, Int.reduceAdd, Int.reduceSub, Int.reduceToNat, ci, vi, getO_i, vt]
 have hlt : l.tail.length <= l.length := by rw [List.length_tail]; omega
 have hi0 : (T.set i (rdr l.tail)).length = T.length := List.length_set
 refine SemB.adopt 3 5 1 Nat.one_pos rfl ?_
 simp -dsimp +decide (disch := omega) only [vb, Tryd.mpf, vsk, vr, ty, en, ↓reduceIte, Nat.reduceSub, Nat.reduceAdd, Nat.reduceMul, Nat.reduceLT, Int.reduceAdd, Int.reduceSub, Int.reduceToNat, ci, vi, getO_i, vt]
 refine SemB.loopS (fun s : B × B => [(0, .ptr i 0), (3, .sl T.length 0 s.2.length)]) (fun s => T.set i (rdr s.1) ++ [bf s.2]) (fun s => txtF s.1 s.2 = txtF l.tail [] /\ s.2.length + 4 * s.1.length <= 4 * l.length) (fun s => s.1.length) (l.tail, []) [(i, false)] 0
  (fun s : B × B => [(3, .sl T.length 0 s.2.length)]) (fun s => T.set i (rdr s.1) ++ [bf s.2]) (fun s => txtF l.tail [] = some (s.2, s.1)) ⟨rfl, by simp; omega⟩ ⟨rfl, rfl, rfl⟩ rfl (by simp [rec1_in hil]) ?_ ?_
 . rintro ⟨m, out⟩ g ⟨hm, hlen⟩
   dsimp only at hm hlen
   refine SemB.of (by kernel_rfl) ?_
   have hset := fun (x : List UInt8) (o : AObj) => set_rb (l := [bf out]) hil (rdr x) o
   have hgi := fun (x : List UInt8) => get_rb (l := [bf out]) hil (rdr x)
   have hgi' := fun (x : List UInt8) => (hgi x).trans (congrArg some (show rdr x = .cells 45 [bl x] from rfl))
   have hl0 : ∀ x : B, (T.set i (rdr x)).length = T.length := fun _ => List.length_set
   have hgl := fun (x : List UInt8) => get_rl (T := T) (i := i) (rdr x) (bf out)
   have hgi2 := fun (x : List UInt8) (o : AObj) => (get_rb (l := [o]) hil (rdr x)).trans (congrArg some (show rdr x = .cells 45 [bl x] from rfl))
   have hset2 := fun (x : List UInt8) (b o : AObj) => set_rb (l := [b]) hil (rdr x) o
   have hwm : (T.set i (rdr m)).map (AObj.wo fun x => x == T.length) = T.set i (rdr m) := set_wo (wf _ fun j hj => by simp; omega).1 i m
   have hib : (i == T.length) = false := by simp; omega
   have hglb := fun (x : List UInt8) => (hgl x).trans (congrArg some (show bf out = .buf 5 1 (out.map by8) from rfl))
   have hsl := fun (x : List UInt8) (o : AObj) => set_rl (T := T) (i := i) (rdr x) (bf out) o
   have wc : ∀ x : B, (T.set i (rdr x)).map (AObj.wo (T.length <= ·)) = T.set i (rdr x) := fun x => set_wo (wf _ fun j hj => decide_eq_false (by omega)).1 i x
   have wq : ∀ x : B, (T.set i (rdr x) ++ [bf out]).map (AObj.wo fun x => x == T.length) = T.set i (rdr x) ++ [bf out] := fun x => by
    rw [List.map_append, set_wo (wf _ fun j hj => by simp; omega).1 i x, List.map_cons, List.map_nil, bf_wo]
   simp -dsimp +decide (disch := omega) only [vb, Tryd.mpf, vsk, vr, ty, en, ↓reduceIte, Nat.reduceSub, Nat.reduceAdd, Nat.reduceMul, Nat.reduceLT, Int.reduceAdd, Int.reduceSub, Int.reduceToNat, ci, vi, getO_i, vt]
   refine (is_ok (c := 34) (hgi m)).det' ?_
   rw [hset]
   by_cases h34 : m.head? = some 34
   . rw [if_pos h34, decide_eq_true h34]
     simp -dsimp +decide (disch := omega) only [vb, Tryd.mpf, vsk, vr, ty, en, ↓reduceIte, Nat.reduceSub, Nat.reduceAdd, Nat.reduceMul, Nat.reduceLT, Int.reduceAdd, Int.reduceSub, Int.reduceToNat, ci, vi, getO_i, vt]
     exact ⟨(m.tail, out), by rw [<- hm, txtF_eq, if_pos h34], SeeL.done ⟨rfl, ⟨rfl, rfl⟩, rfl, by simp [rec1_in hil]⟩⟩
   rw [if_neg h34, decide_eq_false h34]
   simp -dsimp +decide (disch := omega) only [vb, Tryd.mpf, vsk, vr, ty, en, ↓reduceIte, Nat.reduceSub, Nat.reduceAdd, Nat.reduceMul, Nat.reduceLT, Int.reduceAdd, Int.reduceSub, Int.reduceToNat, ci, vi, getO_i, vt]
   refine (is_ok (c := 92) (hgi m)).det' ?_
   rw [hset]
   by_cases h92 : m.head? = some 92
   . rw [if_pos h92, decide_eq_true h92]
     have hesc : ∀ c r, esc m.tail = some (c, r) -> txtF m out = txtF r (out ++ enc c) := fun c r h => by rw [txtF_eq, if_neg h34, if_pos h92, h]
     have hesn : esc m.tail = none -> txtF m out = none := fun h => by rw [txtF_eq, if_neg h34, if_pos h92, h]
     have hml : m.tail.length <= m.length := by rw [List.length_tail]; omega
     simp -dsimp +decide (disch := omega) only [vb, Tryd.mpf, vsk, vr, ty, en, ↓reduceIte, Nat.reduceSub, Nat.reduceAdd, Nat.reduceMul, Nat.reduceLT, Int.reduceAdd, Int.reduceSub, Int.reduceToNat, ci, vi, getO_i, vt]
     refine (escape_ok (hgi m.tail)).mono ?_ ?_
     . rintro v T' es ⟨n, r, he, rfl, rfl, rfl⟩
       obtain ⟨ok, hrl⟩ := esc_spec he
       rw [hset]
       simp -dsimp +decide (disch := omega) only [vb, Tryd.mpf, vsk, vr, ty, en, ↓reduceIte, Nat.reduceSub, Nat.reduceAdd, Nat.reduceMul, Nat.reduceLT, Int.reduceAdd, Int.reduceSub, Int.reduceToNat, ci, vi, getO_i, vt]
       refine (arun_ok (hgl r) (by omega) ok (wq r)).mono ?_
       rintro v T' es ⟨rfl, rfl, rfl⟩
       rw [hsl]
       simp -dsimp +decide (disch := omega) only [vb, Tryd.mpf, vsk, vr, ty, en, ↓reduceIte, Nat.reduceSub, Nat.reduceAdd, Nat.reduceMul, Nat.reduceLT, Int.reduceAdd, Int.reduceSub, Int.reduceToNat, ci, vi, getO_i, vt, hib]
       have he4 : (enc n).length <= 4 := by rcases enc_cases ok with h | h | h | h <;> omega
       have hmt : m.tail.length + 1 = m.length := tail_len h92
       exact ⟨(r, out ++ enc n), ⟨⟨by rw [<- hm, hesc n r he], by dsimp only; rw [List.length_append]; omega⟩, by dsimp only; omega⟩, SeeL.done ⟨rfl, ⟨rfl, rfl, rfl⟩, rfl, by simp [rec1_in hil]⟩⟩
     . rintro v T' es ⟨he, rfl, ⟨r, rfl⟩, rfl⟩
       rw [hset]
       simp -dsimp +decide (disch := omega) only [vb, Tryd.mpf, vsk, vr, ty, en, ↓reduceIte, Nat.reduceSub, Nat.reduceAdd, Nat.reduceMul, Nat.reduceLT, Int.reduceAdd, Int.reduceSub, Int.reduceToNat, ci, vi, getO_i, vt]
       exact Vw.eff (E' := [(i, false)]) (by simp [rec1_in hil]) (Vw.drop (hl0 r) (wc r) ⟨by rw [<- hm, hesn he], eno_wo _ _, ⟨r, rfl⟩, rfl⟩)
   rw [if_neg h92, decide_eq_false h92]
   simp -dsimp +decide (disch := omega) only [vb, Tryd.mpf, vsk, vr, ty, en, ↓reduceIte, Nat.reduceSub, Nat.reduceAdd, Nat.reduceMul, Nat.reduceLT, Int.reduceAdd, Int.reduceSub, Int.reduceToNat, ci, vi, getO_i, vt, vbl, hgi']
   refine drune_ok.det ?_
   have hb := run_bad (m := m)
   obtain ⟨hd1, hd2, hd3⟩ := decR_lt m
   have hdd : ¬ ((dec m).2 = 0 ∨ (dec m).1 < 32) -> decR m = dec m := fun h => by
    cases m with
    | nil => exact absurd (.inl rfl) h
    | cons a r => exact decR_ok fun e => h (.inl e)
   generalize decR m = p at hb hd1 hd2 hd3 hdd ⊢
   obtain ⟨c, n⟩ := p
   dsimp only at hb hd1 hd2 hd3 ⊢
   simp -dsimp +decide (disch := omega) only [vb, Tryd.mpf, vsk, vr, ty, en, ↓reduceIte, Nat.reduceSub, Nat.reduceAdd, Nat.reduceMul, Nat.reduceLT, Int.reduceAdd, Int.reduceSub, Int.reduceToNat, ci, vi, getO_i, vt, vres, vone]
   have hx0 : ∀ (b : Bool), b = false -> ((dec m).2 = 0 ∨ (dec m).1 < 32) -> CallP prog G 18 [.p (.bool b)] (T.set i (rdr m) ++ [bf out]) (fun _ _ _ => False) fun v T' es => ((dec m).2 = 0 ∨ (dec m).1 < 32) /\ v = eno 5 /\ T' = T.set i (rdr m) ++ [bf out] /\ es = [] := fun b hb hd => (need_ok b).mono (fun v T' es h => by rw [hb] at h; cases h.1) fun v T' es h => ⟨hd, h.2⟩
   by_cases b1 : n = 0
   . have c1 : ((0 : Int) < (n : Int)) = False := eq_false (by omega)
     simp -dsimp +decide (disch := omega) only [vb, Tryd.mpf, vsk, vr, ty, en, ↓reduceIte, Nat.reduceSub, Nat.reduceAdd, Nat.reduceMul, Nat.reduceLT, Int.reduceAdd, Int.reduceSub, Int.reduceToNat, ci, vi, getO_i, vt, c1, bb2]
     refine (hx0 _ rfl (hb.2 (.inl b1))).mono (fun _ _ _ h => h.elim) ?_
     rintro v T' es ⟨he, rfl, rfl, rfl⟩
     simp -dsimp +decide (disch := omega) only [vb, Tryd.mpf, vsk, vr, ty, en, ↓reduceIte, Nat.reduceSub, Nat.reduceAdd, Nat.reduceMul, Nat.reduceLT, Int.reduceAdd, Int.reduceSub, Int.reduceToNat, ci, vi, getO_i, vt]
     exact Vw.eff (E' := [(i, false)]) (by simp [rec1_in hil]) (Vw.drop (hl0 m) (wc m) ⟨by rw [<- hm, txtF_bad h34 h92 he], eno_wo _ _, ⟨m, rfl⟩, rfl⟩)
   have c1 : ((0 : Int) < (n : Int)) = True := eq_true (by omega)
   by_cases b2 : c < 32
   . have c2 : ((32 : Int) <= (c : Int)) = False := eq_false (by omega)
     simp -dsimp +decide (disch := omega) only [vb, Tryd.mpf, vsk, vr, ty, en, ↓reduceIte, Nat.reduceSub, Nat.reduceAdd, Nat.reduceMul, Nat.reduceLT, Int.reduceAdd, Int.reduceSub, Int.reduceToNat, ci, vi, getO_i, vt, c1, c2, bb2]
     refine (hx0 _ rfl (hb.2 (.inr (.inl b2)))).mono (fun _ _ _ h => h.elim) ?_
     rintro v T' es ⟨he, rfl, rfl, rfl⟩
     simp -dsimp +decide (disch := omega) only [vb, Tryd.mpf, vsk, vr, ty, en, ↓reduceIte, Nat.reduceSub, Nat.reduceAdd, Nat.reduceMul, Nat.reduceLT, Int.reduceAdd, Int.reduceSub, Int.reduceToNat, ci, vi, getO_i, vt]
     exact Vw.eff (E' := [(i, false)]) (by simp [rec1_in hil]) (Vw.drop (hl0 m) (wc m) ⟨by rw [<- hm, txtF_bad h34 h92 he], eno_wo _ _, ⟨m, rfl⟩, rfl⟩)
   have c2 : ((32 : Int) <= (c : Int)) = True := eq_true (by omega)
   by_cases b3 : c = 65533 /\ n <= 1
   . have c3 : ((c : Int) = 65533) = True := eq_true (by omega)
     have c4 : ((1 : Int) < (n : Int)) = False := eq_false (by omega)
     simp -dsimp +decide (disch := omega) only [vb, Tryd.mpf, vsk, vr, ty, en, ↓reduceIte, Nat.reduceSub, Nat.reduceAdd, Nat.reduceMul, Nat.reduceLT, Int.reduceAdd, Int.reduceSub, Int.reduceToNat, ci, vi, getO_i, vt, c1, c2, c3, c4, bb2]
     refine (hx0 _ rfl (hb.2 (.inr (.inr b3)))).mono (fun _ _ _ h => h.elim) ?_
     rintro v T' es ⟨he, rfl, rfl, rfl⟩
     simp -dsimp +decide (disch := omega) only [vb, Tryd.mpf, vsk, vr, ty, en, ↓reduceIte, Nat.reduceSub, Nat.reduceAdd, Nat.reduceMul, Nat.reduceLT, Int.reduceAdd, Int.reduceSub, Int.reduceToNat, ci, vi, getO_i, vt]
     exact Vw.eff (E' := [(i, false)]) (by simp [rec1_in hil]) (Vw.drop (hl0 m) (wc m) ⟨by rw [<- hm, txtF_bad h34 h92 he], eno_wo _ _, ⟨m, rfl⟩, rfl⟩)
   have hgood : ¬ ((dec m).2 = 0 ∨ (dec m).1 < 32) := fun h => by
    rcases hb.1 h with h | h | h
    . exact b1 h
    . exact b2 h
    . exact b3 h
   have hgo := txtF_go (out := out) h34 h92 hgood
   rw [<- hdd hgood] at hgo
   dsimp only at hgo
   have hlt2 : (m.take n).length = n := by rw [List.length_take]; omega
   have hld : (m.drop n).length = m.length - n := List.length_drop
   have hdn : (m.drop n).take (m.length - n) = m.drop n := List.take_of_length_le (by rw [hld]; exact Nat.le_refl _)
   by_cases b4 : c = 65533
   . have c3 : ((c : Int) = 65533) = True := eq_true (by omega)
     have c4 : ((1 : Int) < (n : Int)) = True := eq_true (by omega)
     simp -dsimp +decide (disch := omega) only [vb, Tryd.mpf, vsk, vr, ty, en, ↓reduceIte, Nat.reduceSub, Nat.reduceAdd, Nat.reduceMul, Nat.reduceLT, Int.reduceAdd, Int.reduceSub, Int.reduceToNat, ci, vi, getO_i, vt, c1, c2, c3, c4, bb2]
     refine (need_ok _).mono ?_ ?_
     rotate_left
     . rintro v T' es ⟨h, -⟩
       cases h
     rintro v T' es ⟨-, rfl, rfl, rfl⟩
     simp -dsimp +decide (disch := omega) only [vb, Tryd.mpf, vsk, vr, ty, en, ↓reduceIte, Nat.reduceSub, Nat.reduceAdd, Nat.reduceMul, Nat.reduceLT, Int.reduceAdd, Int.reduceSub, Int.reduceToNat, ci, vi, getO_i, vt, vbl, hgi', hglb, hib, hwm, bf_wo, hsl, hgi2, hset2, Int.toNat_natCast]
     rw [List.drop_zero, hlt2]
     refine ⟨by omega, ⟨Nat.zero_le _, hd3⟩, ⟨by omega, by omega⟩, ?_⟩
     rw [hdn]
     exact ⟨by omega, ⟨hd3, Nat.le_refl _⟩, rfl, (m.drop n, out ++ m.take n), ⟨⟨by rw [<- hm, hgo], by dsimp only; rw [List.length_append, hlt2, hld]; omega⟩, by dsimp only; rw [hld]; omega⟩, SeeL.done ⟨rfl, ⟨rfl, by dsimp only; rw [List.length_append, hlt2]; rfl, rfl⟩, rfl, by simp [rec1_in hil]⟩⟩
   . have c3 : ((c : Int) = 65533) = False := eq_false (by omega)
     simp -dsimp +decide (disch := omega) only [vb, Tryd.mpf, vsk, vr, ty, en, ↓reduceIte, Nat.reduceSub, Nat.reduceAdd, Nat.reduceMul, Nat.reduceLT, Int.reduceAdd, Int.reduceSub, Int.reduceToNat, ci, vi, getO_i, vt, c1, c2, c3, bb2]
     refine (need_ok _).mono ?_ ?_
     rotate_left
     . rintro v T' es ⟨h, -⟩
       cases h
     rintro v T' es ⟨-, rfl, rfl, rfl⟩
     simp -dsimp +decide (disch := omega) only [vb, Tryd.mpf, vsk, vr, ty, en, ↓reduceIte, Nat.reduceSub, Nat.reduceAdd, Nat.reduceMul, Nat.reduceLT, Int.reduceAdd, Int.reduceSub, Int.reduceToNat, ci, vi, getO_i, vt, vbl, hgi', hglb, hib, hwm, bf_wo, hsl, hgi2, hset2, Int.toNat_natCast]
     rw [List.drop_zero, hlt2]
     refine ⟨by omega, ⟨Nat.zero_le _, hd3⟩, ⟨by omega, by omega⟩, ?_⟩
     rw [hdn]
     exact ⟨by omega, ⟨hd3, Nat.le_refl _⟩, rfl, (m.drop n, out ++ m.take n), ⟨⟨by rw [<- hm, hgo], by dsimp only; rw [List.length_append, hlt2, hld]; omega⟩, by dsimp only; rw [hld]; omega⟩, SeeL.done ⟨rfl, ⟨rfl, by dsimp only; rw [List.length_append, hlt2]; rfl, rfl⟩, rfl, by simp [rec1_in hil]⟩⟩
 . rintro ⟨m, out⟩ g tmp hs
   dsimp only at hs
   have hglb := (get_rl (T := T) (i := i) (rdr m) (bf out)).trans (congrArg some (show bf out = .buf 5 1 (out.map by8) from rfl))
   have ht : List.take out.length (List.drop 0 out) = out := by rw [List.drop_zero, List.take_length]
   simp -dsimp +decide (disch := omega) only [vb, Tryd.mpf, vsk, vr, ty, en, ↓reduceIte, Nat.reduceSub, Nat.reduceAdd, Nat.reduceMul, Nat.reduceLT, Int.reduceAdd, Int.reduceSub, Int.reduceToNat, ci, vi, getO_i, vt, hglb, ht, bytes8]
   refine ⟨Nat.le_refl _, ?_⟩
   exact Vw.drop List.length_set (set_wo (wf _ fun j hj => decide_eq_false (by omega)).1 i m) ⟨out, m, hs, str_wo _ _, rfl, rfl⟩
end Go.Proofs.YtglpcedoongagaaDoor
namespace Go.Proofs.YtglpcedoongagaaDoor
open Go.E Go.Proofs.YtglpcedoongagaaDoor.Tryd Go.Proofs.Tryd Go.J
theorem pint_ok {T : Tbl} {l : B} (hl : l.length <= 281474976710656) (hs : Lib.parseIntB 64 l ≠ Lib.NumEnd.syntax) : CallA prog G 44 [str l, wint 10, wint 64] T fun v T' es => ((∃ z, Lib.parseIntB 64 l = .ok z /\ v = .tu [.p (.int .i64 z), .p .nilIface]) ∨ (Lib.parseIntB 64 l = .range /\ v = .tu [.p (.int .i64 (Lib.intSat 64 l)), .ic 100 .any])) /\ T' = T /\ es = [] := by
 refine CallA.ofBelow (K := fun v => (∃ z, Lib.parseIntB 64 l = .ok z /\ v = .tu [.p (.int .i64 z), .p .nilIface]) ∨ (Lib.parseIntB 64 l = .range /\ v = .tu [.p (.int .i64 (Lib.intSat 64 l)), .ic 100 .any])) ?_
 intro Z ρ w vs hG hst ha
 obtain ⟨v1, us, rfl, r1, ha⟩ := ha.uncons
 obtain ⟨v2, us, rfl, r2, ha⟩ := ha.uncons
 obtain ⟨v3, us, rfl, r3, ha⟩ := ha.uncons
 obtain rfl := ha.unnil
 obtain rfl := r1.p_inv
 obtain rfl := r2.p_inv
 obtain rfl := r3.p_inv
 have hsz : (ba l).size = l.length := ba_size l
 cases h : Lib.parseIntB 64 l with
 | ok z =>
   refine Calls.mono (Any.strconv_ParseInt_10_at64_ok sh_LaysCn174 (ba l) (by omega) z h w) ?_
   rintro e w' ⟨rfl, hw⟩
   refine ⟨_, .tu [.p (.int .i64 z), .p .nilIface], rfl, .tu (vs := [.int .i64 z, .nilIface]) rfl (fun k h1 h2 => ?_), .inl ⟨z, rfl, rfl⟩, ?_⟩
   . match k, h1 with
     | 0, _ => exact .p _
     | 1, _ => exact .p _
   . rcases hw with rfl | ⟨t, rfl⟩
     . exact .refl _ _
     . exact Lib.bytesWorld_below _ _ _
 | range =>
   obtain ⟨pe, hpe⟩ := gvar0 hG hst Ger
   refine Calls.mono (Any.strconv_ParseInt_10_at64_range sh_LaysCn174 (ba l) (by omega) h _ w hpe (.inr ⟨_, _, rfl⟩)) ?_
   rintro e w' ⟨N, rfl, -, -, hw⟩
   refine ⟨_, .tu [.p (.int .i64 (Lib.intSat 64 l)), .ic 100 .any], rfl, .tu (vs := [.int .i64 (Lib.intSat 64 l), .iface 100 (.pointer (some ⟨N, 0, none⟩))]) rfl (fun k h1 h2 => ?_), .inr ⟨rfl, rfl⟩, hw⟩
   match k, h1 with
   | 0, _ => exact .p _
   | 1, _ => exact .ic (.any _)
 | _ => exact absurd h hs
theorem dspan_step : ∀ (d : B) (j : Nat), j <= dspan d -> (j < dspan d ↔ ∃ x, d[j]? = some x /\ 48 <= x.toNat /\ x.toNat <= 57)
 | [], j, h => by simp [dspan] at h ⊢
 | x :: r, 0, _ => by
   unfold dspan
   by_cases hx : isD x = true
   . rw [if_pos hx]
     exact ⟨fun _ => ⟨x, rfl, of_decide_eq_true hx⟩, fun _ => Nat.succ_pos _⟩
   . rw [if_neg hx]
     refine ⟨fun h => absurd h (Nat.lt_irrefl 0), ?_⟩
     rintro ⟨y, e, hy⟩
     cases e
     exact absurd (decide_eq_true hy) hx
 | x :: r, j + 1, h => by
   unfold dspan at h ⊢
   by_cases hx : isD x = true
   . rw [if_pos hx] at h ⊢
     rw [List.getElem?_cons_succ, <- dspan_step r j (by omega)]
     omega
   . rw [if_neg hx] at h
     omega
theorem dlen_step (d : B) (j : Nat) (h : j <= dlen d) : j < dlen d ↔ ∃ x, d[j]? = some x /\ 48 <= x.toNat /\ x.toNat <= 57 /\ (j = 0 ∨ d.head? ≠ some 48) := by
 unfold dlen at h ⊢
 by_cases h0 : d.head? = some 48
 . rw [if_pos h0] at h ⊢
   constructor
   . intro hj
     have : j = 0 := by omega
     subst this
     cases d with
     | nil => cases h0
     | cons x r => cases h0; exact ⟨48, rfl, by decide, by decide, .inl rfl⟩
   . rintro ⟨x, -, -, -, rfl | hx⟩
     . exact Nat.one_pos
     . exact absurd h0 hx
 . rw [if_neg h0] at h ⊢
   rw [dspan_step d j h]
   exact ⟨fun ⟨x, a, b, c⟩ => ⟨x, a, b, c, .inr h0⟩, fun ⟨x, a, b, c, _⟩ => ⟨x, a, b, c⟩⟩
theorem number_ok {T : Tbl} {i : Nat} {a : UInt8} {t : List UInt8} (hl : t.length <= 1099511627776) (hi : T[i]? = some (rdr (a :: t))) : CallP prog G 30 [.ptr i 0] T
 (fun v T' es => ∃ z r, num (a :: t) = some (z, r) /\ v = .p (.int .i64 z) /\ T' = T.set i (rdr r) /\ es = [(i, false)]) (fun v T' es => num (a :: t) = none /\ v = eno 5 /\ T' = T /\ es = []) := by
 have hil := (List.getElem?_eq_some_iff.1 hi).1
 have hi' := hi
 rw [rdr] at hi
 have h0 : (0 < (((a :: t).length : Nat) : Int)) = True := eq_true (by simp)
 have hg : ((a :: t).map by8)[0]? = some (by8 a) := rfl
 have hl0 : 0 < (a :: t).length := by simp
 refine CallP.enterV Tryd.mp 7 func30 ntmps30 (congrArg Array.toList results30) rfl ⟨by simp, by simp⟩ (by kernel_rfl) (by kernel_rfl) ?_
 simp -dsimp +decide only [vb, Tryd.mpf, vsk, vr, ty, en, ↓reduceIte, Nat.reduceSub, Nat.reduceAdd, Nat.reduceMul, Nat.reduceLT, Int.reduceAdd, Int.reduceSub, Int.reduceToNat, ci]
 simp -dsimp +decide (disch := omega) only [vb, Tryd.mpf, vsk, vr, ty, en, ↓reduceIte, Nat.reduceSub, Nat.reduceAdd, Nat.reduceMul, Nat.reduceLT, Int.reduceAdd, Int.reduceSub, Int.reduceToNat, ci, vi, getO_i, vt, vbl, hi, h0, hg, hl0]
 have hti : tk prog 73 = .interface #[("Error", 55)] := by kernel_rfl
 refine CondP.dec (fun hc => ?_) (fun hc => ?_)
 . simp -dsimp +decide (disch := omega) only [vb, Tryd.mpf, vsk, vr, ty, en, ↓reduceIte, Nat.reduceSub, Nat.reduceAdd, Nat.reduceMul, Nat.reduceLT, Int.reduceAdd, Int.reduceSub, Int.reduceToNat, ci, vi, getO_i, vt]
   have hst := dlen_step ((a :: t).drop 1)
   have hle := dlen_le ((a :: t).drop 1)
   have hdl : ((a :: t).drop 1).length = t.length + 1 - 1 := by rw [List.length_drop, List.length_cons]
   have hsl : (a :: t).length = t.length + 1 := List.length_cons
   have hnum : num (a :: t) = numD true ((a :: t).drop 1) := by
    have : a = 45 := UInt8.toNat_inj.1 (by show a.toNat = 45; omega)
    subst this; exact if_pos rfl
   have hdig := take_dlen ((a :: t).drop 1)
   generalize hdd : dlen ((a :: t).drop 1) = D at hst hle hdig
   obtain ⟨K, hK⟩ : ∃ K, K = 1 + D := ⟨_, rfl⟩
   refine SemB.loopS (fun k : Nat => [(0, .ptr i 0), (3, wint (k : Int)), (4, wint 1)]) (fun _ => T) (fun k => 1 <= k /\ k <= 1 + D) (fun k => 1 + D - k) 1 [] 0
    (fun _ : Unit => [(0, .ptr i 0), (3, wint (K : Int)), (4, wint 1)]) (fun _ => T) (fun _ => True) ⟨Nat.le_refl _, by omega⟩ ⟨rfl, rfl, rfl, rfl⟩ rfl (by simp) ?_ ?_
   . rintro k g ⟨hk1, hk2⟩
     refine SemB.of (by kernel_rfl) ?_
     have hw : IntKind.i64.wrap ((k : Int) + 1) = ((k + 1 : Nat) : Int) := IntWalk.i64_in _ (by omega)
     have hk0 : (0 : Int) <= (k : Int) := Int.natCast_nonneg k
     have hstk := hst (k - 1) (by omega)
     rw [List.getElem?_drop, show 1 + (k - 1) = k by omega] at hstk
     by_cases hlt : k < (a :: t).length
     rotate_left
     . have hlt' : ((k : Int) < ((a :: t).length : Int)) = False := eq_false (by omega)
       have hkD : k = 1 + D := by omega
       rw [<- hK] at hkD
       subst hkD
       simp -dsimp +decide (disch := omega) only [vb, Tryd.mpf, vsk, vr, ty, en, ↓reduceIte, Nat.reduceSub, Nat.reduceAdd, Nat.reduceMul, Nat.reduceLT, Int.reduceAdd, Int.reduceSub, Int.reduceToNat, ci, vi, getO_i, vt, vbl, hi, hlt', bb2]
       exact ⟨(), SeeL.done ⟨rfl, ⟨rfl, rfl, rfl, rfl⟩, rfl, by simp⟩⟩
     have hlt' : ((k : Int) < ((a :: t).length : Int)) = True := eq_true (by omega)
     obtain ⟨x, hx⟩ : ∃ x, (a :: t)[k]? = some x := ⟨_, List.getElem?_eq_getElem hlt⟩
     have hgx : ((a :: t).map by8)[k]? = some (by8 x) := by rw [List.getElem?_map, hx]; rfl
     by_cases b1 : 48 <= x.toNat
     rotate_left
     . have b1' : ((48 : Int) <= (x.toNat : Int)) = False := eq_false (by omega)
       have hkD : k = 1 + D := by
        have := mt hstk.1 (fun ⟨y, e, c, _⟩ => by rw [hx] at e; cases e; exact b1 c)
        omega
       rw [<- hK] at hkD
       subst hkD
       simp -dsimp +decide (disch := omega) only [vb, Tryd.mpf, vsk, vr, ty, en, ↓reduceIte, Nat.reduceSub, Nat.reduceAdd, Nat.reduceMul, Nat.reduceLT, Int.reduceAdd, Int.reduceSub, Int.reduceToNat, ci, vi, getO_i, vt, vbl, hi, hlt', hk0, hlt, hgx, b1', bb2, Int.toNat_natCast]
       exact ⟨(), SeeL.done ⟨rfl, ⟨rfl, rfl, rfl, rfl⟩, rfl, by simp⟩⟩
     have b1' : ((48 : Int) <= (x.toNat : Int)) = True := eq_true (by omega)
     by_cases b2 : x.toNat <= 57
     rotate_left
     . have b2' : ((x.toNat : Int) <= 57) = False := eq_false (by omega)
       have hkD : k = 1 + D := by
        have := mt hstk.1 (fun ⟨y, e, _, c, _⟩ => by rw [hx] at e; cases e; exact b2 c)
        omega
       rw [<- hK] at hkD
       subst hkD
       simp -dsimp +decide (disch := omega) only [vb, Tryd.mpf, vsk, vr, ty, en, ↓reduceIte, Nat.reduceSub, Nat.reduceAdd, Nat.reduceMul, Nat.reduceLT, Int.reduceAdd, Int.reduceSub, Int.reduceToNat, ci, vi, getO_i, vt, vbl, hi, hlt', hk0, hlt, hgx, b1', b2', bb2, Int.toNat_natCast]
       exact ⟨(), SeeL.done ⟨rfl, ⟨rfl, rfl, rfl, rfl⟩, rfl, by simp⟩⟩
     have b2' : ((x.toNat : Int) <= 57) = True := eq_true (by omega)
     by_cases b3 : k = 1
     . have b3' : ((k : Int) = 1) = True := eq_true (by omega)
       have hkD : k < 1 + D := by have := hstk.2 ⟨x, hx, b1, b2, .inl (by omega)⟩; omega
       simp -dsimp +decide (disch := omega) only [vb, Tryd.mpf, vsk, vr, ty, en, ↓reduceIte, Nat.reduceSub, Nat.reduceAdd, Nat.reduceMul, Nat.reduceLT, Int.reduceAdd, Int.reduceSub, Int.reduceToNat, ci, vi, getO_i, vt, vbl, hi, hlt', hk0, hlt, hgx, b1', b2', b3', bb2, hw, Int.toNat_natCast]
       exact ⟨k + 1, ⟨⟨by omega, by omega⟩, by omega⟩, SeeL.done ⟨rfl, ⟨rfl, rfl, rfl, rfl⟩, rfl, by simp⟩⟩
     have b3' : ((k : Int) = 1) = False := eq_false (by omega)
     have hfl : 1 < (a :: t).length := by omega
     have hfl' : ((1 : Int) < ((a :: t).length : Int)) = True := eq_true (by omega)
     obtain ⟨y, hy⟩ : ∃ y, (a :: t)[1]? = some y := ⟨_, List.getElem?_eq_getElem hfl⟩
     have hgy : ((a :: t).map by8)[1]? = some (by8 y) := by rw [List.getElem?_map, hy]; rfl
     have hhd : ((a :: t).drop 1).head? = some y := by rw [List.head?_drop, hy]
     by_cases b4 : y.toNat = 48
     . have b4' : ((y.toNat : Int) = 48) = True := eq_true (by omega)
       have hkD : k = 1 + D := by
        have := mt hstk.1 (fun ⟨_, _, _, _, c⟩ => c.elim (fun e => b3 (by omega)) fun e => e (by rw [hhd, <- UInt8.toNat_inj.1 (show y.toNat = (48 : UInt8).toNat from b4)]))
        omega
       rw [<- hK] at hkD
       subst hkD
       simp -dsimp +decide (disch := omega) only [vb, Tryd.mpf, vsk, vr, ty, en, ↓reduceIte, Nat.reduceSub, Nat.reduceAdd, Nat.reduceMul, Nat.reduceLT, Int.reduceAdd, Int.reduceSub, Int.reduceToNat, ci, vi, getO_i, vt, vbl, hi, hlt', hk0, hlt, hgx, b1', b2', b3', hfl, hfl', hgy, b4', bb2, Int.toNat_natCast]
       exact ⟨(), SeeL.done ⟨rfl, ⟨rfl, rfl, rfl, rfl⟩, rfl, by simp⟩⟩
     . have b4' : ((y.toNat : Int) = 48) = False := eq_false (by omega)
       have hkD : k < 1 + D := by
        have := hstk.2 ⟨x, hx, b1, b2, .inr (fun e => b4 (by rw [hhd] at e; cases e; rfl))⟩
        omega
       simp -dsimp +decide (disch := omega) only [vb, Tryd.mpf, vsk, vr, ty, en, ↓reduceIte, Nat.reduceSub, Nat.reduceAdd, Nat.reduceMul, Nat.reduceLT, Int.reduceAdd, Int.reduceSub, Int.reduceToNat, ci, vi, getO_i, vt, vbl, hi, hlt', hk0, hlt, hgx, b1', b2', b3', hfl, hfl', hgy, b4', bb2, hw, Int.toNat_natCast]
       exact ⟨k + 1, ⟨⟨by omega, by omega⟩, by omega⟩, SeeL.done ⟨rfl, ⟨rfl, rfl, rfl, rfl⟩, rfl, by simp⟩⟩
   . rintro _ g tmp -
     simp -dsimp +decide (disch := omega) only [vb, Tryd.mpf, vsk, vr, ty, en, ↓reduceIte, Nat.reduceSub, Nat.reduceAdd, Nat.reduceMul, Nat.reduceLT, Int.reduceAdd, Int.reduceSub, Int.reduceToNat, ci, vi, getO_i, vt, vbl]
     refine (need_ok _).mono ?_ ?_
     rotate_left
     . rintro v T' es ⟨hp, rfl, rfl, rfl⟩
       simp -dsimp +decide (disch := omega) only [vb, Tryd.mpf, vsk, vr, ty, en, ↓reduceIte, Nat.reduceSub, Nat.reduceAdd, Nat.reduceMul, Nat.reduceLT, Int.reduceAdd, Int.reduceSub, Int.reduceToNat, ci, vi, getO_i, vt]
       have hD : D = 0 := by have := of_decide_eq_false hp; omega
       exact Vw.done ⟨by rw [hnum, numD, if_pos (by rw [hdd, hD])], rfl, rfl, rfl⟩
     rintro v T es ⟨hp, rfl, rfl, rfl⟩
     have hD : 0 < D := by have := of_decide_eq_true hp; omega
     have hne : ((a :: t).drop 1).take D ≠ [] := fun e => by
      have := congrArg List.length e
      rw [List.length_take, hdl, List.length_nil] at this
      omega
     have hp64 : Lib.parseIntB 64 ((a :: t).take K) = if dval (((a :: t).drop 1).take D) <= 2 ^ 63 then .ok (-(dval (((a :: t).drop 1).take D) : Int)) else .range := by
      have : a = 45 := UInt8.toNat_inj.1 (by show a.toNat = 45; omega)
      subst this
      rw [hK, Nat.add_comm 1 D, List.take_succ_cons]
      exact parseInt_neg hdig hne
     have hnum2 : num (a :: t) = if dval (((a :: t).drop 1).take D) <= 2 ^ 63 then some (-(dval (((a :: t).drop 1).take D) : Int), (a :: t).drop K) else none := by
      rw [hnum, numD, hdd, if_neg (by omega), if_pos rfl, List.drop_drop, hK]
     have hKl : K <= (a :: t).length := by omega
     have htl : ((a :: t).take K).length = K := by rw [List.length_take]; omega
     have hdr : ((a :: t).drop K).take ((a :: t).length - K) = (a :: t).drop K := List.take_of_length_le (by rw [List.length_drop]; omega)
     have hsyn : Lib.parseIntB 64 ((a :: t).take K) ≠ Lib.NumEnd.syntax := by rw [hp64]; split <;> (intro e; cases e)
     simp -dsimp +decide (disch := omega) only [vb, Tryd.mpf, vsk, vr, ty, en, ↓reduceIte, Nat.reduceSub, Nat.reduceAdd, Nat.reduceMul, Nat.reduceLT, Int.reduceAdd, Int.reduceSub, Int.reduceToNat, ci, vi, getO_i, vt, vbl, hi, bytes8, Int.toNat_natCast]
     refine ⟨by omega, ⟨Nat.zero_le _, hKl⟩, ?_⟩
     rw [List.drop_zero]
     refine (pint_ok (l := (a :: t).take K) (by omega) hsyn).mono ?_
     rintro v T' es ⟨⟨z, hz, rfl⟩ | ⟨hz, rfl⟩, rfl, rfl⟩
     . simp -dsimp +decide (disch := omega) only [vb, Tryd.mpf, vsk, vr, ty, en, ↓reduceIte, Nat.reduceSub, Nat.reduceAdd, Nat.reduceMul, Nat.reduceLT, Int.reduceAdd, Int.reduceSub, Int.reduceToNat, ci, vi, getO_i, vt, vbl, hi, vres, vone, vni, vnn hti, hti, bb2]
       refine (need_ok _).mono ?_ ?_
       rotate_left
       . rintro v T' es ⟨h, -⟩
         cases h
       rintro v T' es ⟨-, rfl, rfl, rfl⟩
       simp -dsimp +decide (disch := omega) only [vb, Tryd.mpf, vsk, vr, ty, en, ↓reduceIte, Nat.reduceSub, Nat.reduceAdd, Nat.reduceMul, Nat.reduceLT, Int.reduceAdd, Int.reduceSub, Int.reduceToNat, ci, vi, getO_i, vt, vbl, hi, Int.toNat_natCast]
       refine ⟨by omega, ⟨hKl, Nat.le_refl _⟩, rfl, ?_⟩
       rw [hdr]
       have hcnd : num (a :: t) = some (z, (a :: t).drop K) := by
        rw [hp64] at hz
        rw [hnum2]
        split at hz
        . rename_i hcc; rw [if_pos hcc]; cases hz; rfl
        . cases hz
       exact Vw.done ⟨z, _, hcnd, rfl, rfl, by rw [rec1_in hil]⟩
     . simp -dsimp +decide (disch := omega) only [vb, Tryd.mpf, vsk, vr, ty, en, ↓reduceIte, Nat.reduceSub, Nat.reduceAdd, Nat.reduceMul, Nat.reduceLT, Int.reduceAdd, Int.reduceSub, Int.reduceToNat, ci, vi, getO_i, vt, vbl, hi, vres, vone, vni, vnn hti, hti, bb2]
       refine (need_ok _).mono ?_ ?_
       . rintro v T' es ⟨h, -⟩
         cases h
       rintro v T' es ⟨-, rfl, rfl, rfl⟩
       simp -dsimp +decide (disch := omega) only [vb, Tryd.mpf, vsk, vr, ty, en, ↓reduceIte, Nat.reduceSub, Nat.reduceAdd, Nat.reduceMul, Nat.reduceLT, Int.reduceAdd, Int.reduceSub, Int.reduceToNat, ci, vi, getO_i, vt]
       have hcnd : num (a :: t) = none := by
        rw [hp64] at hz
        rw [hnum2]
        split at hz
        . cases hz
        . rename_i hcc; rw [if_neg hcc]
       exact Vw.done ⟨hcnd, rfl, rfl, rfl⟩
 . simp -dsimp +decide (disch := omega) only [vb, Tryd.mpf, vsk, vr, ty, en, ↓reduceIte, Nat.reduceSub, Nat.reduceAdd, Nat.reduceMul, Nat.reduceLT, Int.reduceAdd, Int.reduceSub, Int.reduceToNat, ci, vi, getO_i, vt]
   have hst := dlen_step ((a :: t).drop 0)
   have hle := dlen_le ((a :: t).drop 0)
   have hdl : ((a :: t).drop 0).length = t.length + 1 - 0 := by rw [List.length_drop, List.length_cons]
   have hsl : (a :: t).length = t.length + 1 := List.length_cons
   have hnum : num (a :: t) = numD false ((a :: t).drop 0) := if_neg (fun e => hc (by cases e; rfl))
   have hdig := take_dlen ((a :: t).drop 0)
   generalize hdd : dlen ((a :: t).drop 0) = D at hst hle hdig
   obtain ⟨K, hK⟩ : ∃ K, K = 0 + D := ⟨_, rfl⟩
   refine SemB.loopS (fun k : Nat => [(0, .ptr i 0), (3, wint (k : Int)), (4, wint 0)]) (fun _ => T) (fun k => 0 <= k /\ k <= 0 + D) (fun k => 0 + D - k) 0 [] 0
    (fun _ : Unit => [(0, .ptr i 0), (3, wint (K : Int)), (4, wint 0)]) (fun _ => T) (fun _ => True) ⟨Nat.le_refl _, by omega⟩ ⟨rfl, rfl, rfl, rfl⟩ rfl (by simp) ?_ ?_
   . rintro k g ⟨hk1, hk2⟩
     refine SemB.of (by kernel_rfl) ?_
     have hw : IntKind.i64.wrap ((k : Int) + 1) = ((k + 1 : Nat) : Int) := IntWalk.i64_in _ (by omega)
     have hk0 : (0 : Int) <= (k : Int) := Int.natCast_nonneg k
     have hstk := hst (k - 0) (by omega)
     rw [List.getElem?_drop, show 0 + (k - 0) = k by omega] at hstk
     by_cases hlt : k < (a :: t).length
     rotate_left
     . have hlt' : ((k : Int) < ((a :: t).length : Int)) = False := eq_false (by omega)
       have hkD : k = 0 + D := by omega
       rw [<- hK] at hkD
       subst hkD
       simp -dsimp +decide (disch := omega) only [vb, Tryd.mpf, vsk, vr, ty, en, ↓reduceIte, Nat.reduceSub, Nat.reduceAdd, Nat.reduceMul, Nat.reduceLT, Int.reduceAdd, Int.reduceSub, Int.reduceToNat, ci, vi, getO_i, vt, vbl, hi, hlt', bb2]
       exact ⟨(), SeeL.done ⟨rfl, ⟨rfl, rfl, rfl, rfl⟩, rfl, by simp⟩⟩
     have hlt' : ((k : Int) < ((a :: t).length : Int)) = True := eq_true (by omega)
     obtain ⟨x, hx⟩ : ∃ x, (a :: t)[k]? = some x := ⟨_, List.getElem?_eq_getElem hlt⟩
     have hgx : ((a :: t).map by8)[k]? = some (by8 x) := by rw [List.getElem?_map, hx]; rfl
     by_cases b1 : 48 <= x.toNat
     rotate_left
     . have b1' : ((48 : Int) <= (x.toNat : Int)) = False := eq_false (by omega)
       have hkD : k = 0 + D := by
        have := mt hstk.1 (fun ⟨y, e, c, _⟩ => by rw [hx] at e; cases e; exact b1 c)
        omega
       rw [<- hK] at hkD
       subst hkD
       simp -dsimp +decide (disch := omega) only [vb, Tryd.mpf, vsk, vr, ty, en, ↓reduceIte, Nat.reduceSub, Nat.reduceAdd, Nat.reduceMul, Nat.reduceLT, Int.reduceAdd, Int.reduceSub, Int.reduceToNat, ci, vi, getO_i, vt, vbl, hi, hlt', hk0, hlt, hgx, b1', bb2, Int.toNat_natCast]
       exact ⟨(), SeeL.done ⟨rfl, ⟨rfl, rfl, rfl, rfl⟩, rfl, by simp⟩⟩
     have b1' : ((48 : Int) <= (x.toNat : Int)) = True := eq_true (by omega)
     by_cases b2 : x.toNat <= 57
     rotate_left
     . have b2' : ((x.toNat : Int) <= 57) = False := eq_false (by omega)
       have hkD : k = 0 + D := by
        have := mt hstk.1 (fun ⟨y, e, _, c, _⟩ => by rw [hx] at e; cases e; exact b2 c)
        omega
       rw [<- hK] at hkD
       subst hkD
       simp -dsimp +decide (disch := omega) only [vb, Tryd.mpf, vsk, vr, ty, en, ↓reduceIte, Nat.reduceSub, Nat.reduceAdd, Nat.reduceMul, Nat.reduceLT, Int.reduceAdd, Int.reduceSub, Int.reduceToNat, ci, vi, getO_i, vt, vbl, hi, hlt', hk0, hlt, hgx, b1', b2', bb2, Int.toNat_natCast]
       exact ⟨(), SeeL.done ⟨rfl, ⟨rfl, rfl, rfl, rfl⟩, rfl, by simp⟩⟩
     have b2' : ((x.toNat : Int) <= 57) = True := eq_true (by omega)
     by_cases b3 : k = 0
     . have b3' : ((k : Int) = 0) = True := eq_true (by omega)
       have hkD : k < 0 + D := by have := hstk.2 ⟨x, hx, b1, b2, .inl (by omega)⟩; omega
       simp -dsimp +decide (disch := omega) only [vb, Tryd.mpf, vsk, vr, ty, en, ↓reduceIte, Nat.reduceSub, Nat.reduceAdd, Nat.reduceMul, Nat.reduceLT, Int.reduceAdd, Int.reduceSub, Int.reduceToNat, ci, vi, getO_i, vt, vbl, hi, hlt', hk0, hlt, hgx, b1', b2', b3', bb2, hw, Int.toNat_natCast]
       exact ⟨k + 1, ⟨⟨by omega, by omega⟩, by omega⟩, SeeL.done ⟨rfl, ⟨rfl, rfl, rfl, rfl⟩, rfl, by simp⟩⟩
     have b3' : ((k : Int) = 0) = False := eq_false (by omega)
     have hfl : 0 < (a :: t).length := by omega
     have hfl' : ((0 : Int) < ((a :: t).length : Int)) = True := eq_true (by omega)
     obtain ⟨y, hy⟩ : ∃ y, (a :: t)[0]? = some y := ⟨_, List.getElem?_eq_getElem hfl⟩
     have hgy : ((a :: t).map by8)[0]? = some (by8 y) := by rw [List.getElem?_map, hy]; rfl
     have hhd : ((a :: t).drop 0).head? = some y := by rw [List.head?_drop, hy]
     by_cases b4 : y.toNat = 48
     . have b4' : ((y.toNat : Int) = 48) = True := eq_true (by omega)
       have hkD : k = 0 + D := by
        have := mt hstk.1 (fun ⟨_, _, _, _, c⟩ => c.elim (fun e => b3 (by omega)) fun e => e (by rw [hhd, <- UInt8.toNat_inj.1 (show y.toNat = (48 : UInt8).toNat from b4)]))
        omega
       rw [<- hK] at hkD
       subst hkD
       simp -dsimp +decide (disch := omega) only [vb, Tryd.mpf, vsk, vr, ty, en, ↓reduceIte, Nat.reduceSub, Nat.reduceAdd, Nat.reduceMul, Nat.reduceLT, Int.reduceAdd, Int.reduceSub, Int.reduceToNat, ci, vi, getO_i, vt, vbl, hi, hlt', hk0, hlt, hgx, b1', b2', b3', hfl, hfl', hgy, b4', bb2, Int.toNat_natCast]
       exact ⟨(), SeeL.done ⟨rfl, ⟨rfl, rfl, rfl, rfl⟩, rfl, by simp⟩⟩
     . have b4' : ((y.toNat : Int) = 48) = False := eq_false (by omega)
       have hkD : k < 0 + D := by
        have := hstk.2 ⟨x, hx, b1, b2, .inr (fun e => b4 (by rw [hhd] at e; cases e; rfl))⟩
        omega
       simp -dsimp +decide (disch := omega) only [vb, Tryd.mpf, vsk, vr, ty, en, ↓reduceIte, Nat.reduceSub, Nat.reduceAdd, Nat.reduceMul, Nat.reduceLT, Int.reduceAdd, Int.reduceSub, Int.reduceToNat, ci, vi, getO_i, vt, vbl, hi, hlt', hk0, hlt, hgx, b1', b2', b3', hfl, hfl', hgy, b4', bb2, hw, Int.toNat_natCast]
       exact ⟨k + 1, ⟨⟨by omega, by omega⟩, by omega⟩, SeeL.done ⟨rfl, ⟨rfl, rfl, rfl, rfl⟩, rfl, by simp⟩⟩
   . rintro _ g tmp -
     simp -dsimp +decide (disch := omega) only [vb, Tryd.mpf, vsk, vr, ty, en, ↓reduceIte, Nat.reduceSub, Nat.reduceAdd, Nat.reduceMul, Nat.reduceLT, Int.reduceAdd, Int.reduceSub, Int.reduceToNat, ci, vi, getO_i, vt, vbl]
     refine (need_ok _).mono ?_ ?_
     rotate_left
     . rintro v T' es ⟨hp, rfl, rfl, rfl⟩
       simp -dsimp +decide (disch := omega) only [vb, Tryd.mpf, vsk, vr, ty, en, ↓reduceIte, Nat.reduceSub, Nat.reduceAdd, Nat.reduceMul, Nat.reduceLT, Int.reduceAdd, Int.reduceSub, Int.reduceToNat, ci, vi, getO_i, vt]
       have hD : D = 0 := by have := of_decide_eq_false hp; omega
       exact Vw.done ⟨by rw [hnum, numD, if_pos (by rw [hdd, hD])], rfl, rfl, rfl⟩
     rintro v T es ⟨hp, rfl, rfl, rfl⟩
     have hD : 0 < D := by have := of_decide_eq_true hp; omega
     have hne : ((a :: t).drop 0).take D ≠ [] := fun e => by
      have := congrArg List.length e
      rw [List.length_take, hdl, List.length_nil] at this
      omega
     have hp64 : Lib.parseIntB 64 ((a :: t).take K) = if dval (((a :: t).drop 0).take D) < 2 ^ 63 then .ok ((dval (((a :: t).drop 0).take D) : Int)) else .range := by
      rw [hK, Nat.zero_add]
      exact parseInt_pos hdig hne
     have hnum2 : num (a :: t) = if dval (((a :: t).drop 0).take D) < 2 ^ 63 then some ((dval (((a :: t).drop 0).take D) : Int), (a :: t).drop K) else none := by
      rw [hnum, numD, hdd, if_neg (by omega), if_neg (by decide), List.drop_drop, hK]
     have hKl : K <= (a :: t).length := by omega
     have htl : ((a :: t).take K).length = K := by rw [List.length_take]; omega
     have hdr : ((a :: t).drop K).take ((a :: t).length - K) = (a :: t).drop K := List.take_of_length_le (by rw [List.length_drop]; omega)
     have hsyn : Lib.parseIntB 64 ((a :: t).take K) ≠ Lib.NumEnd.syntax := by rw [hp64]; split <;> (intro e; cases e)
     simp -dsimp +decide (disch := omega) only [vb, Tryd.mpf, vsk, vr, ty, en, ↓reduceIte, Nat.reduceSub, Nat.reduceAdd, Nat.reduceMul, Nat.reduceLT, Int.reduceAdd, Int.reduceSub, Int.reduceToNat, ci, vi, getO_i, vt, vbl, hi, bytes8, Int.toNat_natCast]
     refine ⟨by omega, ⟨Nat.zero_le _, hKl⟩, ?_⟩
     rw [List.drop_zero]
     refine (pint_ok (l := (a :: t).take K) (by omega) hsyn).mono ?_
     rintro v T' es ⟨⟨z, hz, rfl⟩ | ⟨hz, rfl⟩, rfl, rfl⟩
     . simp -dsimp +decide (disch := omega) only [vb, Tryd.mpf, vsk, vr, ty, en, ↓reduceIte, Nat.reduceSub, Nat.reduceAdd, Nat.reduceMul, Nat.reduceLT, Int.reduceAdd, Int.reduceSub, Int.reduceToNat, ci, vi, getO_i, vt, vbl, hi, vres, vone, vni, vnn hti, hti, bb2]
       refine (need_ok _).mono ?_ ?_
       rotate_left
       . rintro v T' es ⟨h, -⟩
         cases h
       rintro v T' es ⟨-, rfl, rfl, rfl⟩
       simp -dsimp +decide (disch := omega) only [vb, Tryd.mpf, vsk, vr, ty, en, ↓reduceIte, Nat.reduceSub, Nat.reduceAdd, Nat.reduceMul, Nat.reduceLT, Int.reduceAdd, Int.reduceSub, Int.reduceToNat, ci, vi, getO_i, vt, vbl, hi, Int.toNat_natCast]
       refine ⟨by omega, ⟨hKl, Nat.le_refl _⟩, rfl, ?_⟩
       rw [hdr]
       have hcnd : num (a :: t) = some (z, (a :: t).drop K) := by
        rw [hp64] at hz
        rw [hnum2]
        split at hz
        . rename_i hcc; rw [if_pos hcc]; cases hz; rfl
        . cases hz
       exact Vw.done ⟨z, _, hcnd, rfl, rfl, by rw [rec1_in hil]⟩
     . simp -dsimp +decide (disch := omega) only [vb, Tryd.mpf, vsk, vr, ty, en, ↓reduceIte, Nat.reduceSub, Nat.reduceAdd, Nat.reduceMul, Nat.reduceLT, Int.reduceAdd, Int.reduceSub, Int.reduceToNat, ci, vi, getO_i, vt, vbl, hi, vres, vone, vni, vnn hti, hti, bb2]
       refine (need_ok _).mono ?_ ?_
       . rintro v T' es ⟨h, -⟩
         cases h
       rintro v T' es ⟨-, rfl, rfl, rfl⟩
       simp -dsimp +decide (disch := omega) only [vb, Tryd.mpf, vsk, vr, ty, en, ↓reduceIte, Nat.reduceSub, Nat.reduceAdd, Nat.reduceMul, Nat.reduceLT, Int.reduceAdd, Int.reduceSub, Int.reduceToNat, ci, vi, getO_i, vt]
       have hcnd : num (a :: t) = none := by
        rw [hp64] at hz
        rw [hnum2]
        split at hz
        . cases hz
        . rename_i hcc; rw [if_neg hcc]
       exact Vw.done ⟨hcnd, rfl, rfl, rfl⟩
end Go.Proofs.YtglpcedoongagaaDoor
namespace Go.E
theorem cell_at0 {w : World} {b : Nat} {cur : Array Value} {E : TypeId} (h : w.heap[b]? = some (.cells cur E (0, 0))) (j : Nat) : w.cell? ⟨b, j, none⟩ = cur[j]? /\ w.frozen? ⟨b, j, none⟩ = false := by
 constructor
 . simp [World.cell?, h]
 . simp [World.frozen?, h]
theorem put_at {α : Type} [Inhabited α] {enc : α -> Value} {w : World} {b : Nat} {cur : Array Value} {E : TypeId} (h : w.heap[b]? = some (.cells cur E (0, 0))) (q : Nat) (d : Array α) :
 ((Sort.putRow enc w b 0 d).drewN q).heap[b]? = some (.cells (Sort.putCells enc 0 d cur) E (0, 0)) /\ ∀ k, k ≠ b -> ((Sort.putRow enc w b 0 d).drewN q).heap[k]? = w.heap[k]? := by
 have hb := (Array.getElem?_eq_some_iff.1 h).1
 constructor
 . show (w.heap.modify b _)[b]? = _
   rw [Array.getElem?_modify, if_pos rfl, h]; rfl
 . intro k hk
   show (w.heap.modify b _)[k]? = _
   rw [Array.getElem?_modify, if_neg (Ne.symm hk)]
theorem put_list {α : Type} [Inhabited α] {enc : α -> Value} {cur : List Value} {d : List α} (hd : d.length <= cur.length) : (Sort.putCells enc 0 d.toArray cur.toArray).toList = d.map enc ++ cur.drop d.length := by
 refine List.ext_getElem? fun k => ?_
 rw [Array.getElem?_toList, Sort.putCells, Array.getElem?_mapIdx, List.getElem?_toArray]
 by_cases hk : k < d.length
 . rw [List.getElem?_append_left (by rw [List.length_map]; exact hk), List.getElem?_map, List.getElem?_eq_getElem hk, List.getElem?_eq_getElem (show k < cur.length by omega)]
   simp only [Option.map_some, Nat.zero_le, Nat.zero_add, true_and, Nat.sub_zero, List.size_toArray]
   rw [if_pos hk, getElem!_pos d.toArray k (by simpa using hk)]; simp
 . rw [List.getElem?_append_right (by rw [List.length_map]; omega), List.length_map, List.getElem?_drop, show d.length + (k - d.length) = k by omega]
   cases hc : cur[k]? with
   | none => rfl
   | some v =>
     simp only [Option.map_some, Nat.zero_le, Nat.zero_add, true_and, List.size_toArray]
     rw [if_neg (by omega)]
end Go.E
namespace Go.Proofs.YtglpcedoongagaaDoor
open Go.E Go.Proofs.YtglpcedoongagaaDoor.Tryd Go.Proofs.Tryd Go.J Go.Proofs
theorem dd_eq (u : Nat) : Lib.decDigits u = dn u := by
 induction u using Nat.strongRecOn with
 | ind u ih =>
   rw [Lib.decDigits, dn]
   split
   . rfl
   . rw [ih _ (by omega)]
theorem dn_nd (u : Nat) : (dn u).length = Lib.nDigits u := by rw [<- dd_eq, Lib.decDigits_length]
theorem small_ok {T : Tbl} {i : Nat} (h : i < 100) : CallA prog G 72 [wint (i : Int)] T fun v T' es => v = str (dn i) /\ T' = T /\ es = [] := by
 refine CallA.ofBelow (K := fun v => v = str (dn i)) ?_
 intro Z ρ w vs hG hst ha
 obtain ⟨v1, us, rfl, r1, ha⟩ := ha.uncons
 obtain rfl := ha.unnil
 obtain rfl := r1.p_inv
 refine Calls.mono (Any.internal_strconv_small { sh_LaysCn174 with } i h w) ?_
 rintro e w' ⟨rfl, rfl⟩
 rw [dd_eq]
 exact ⟨_, str (dn i), rfl, .p _, rfl, .refl _ _⟩
theorem len64_ok {T : Tbl} {u : UInt64} : CallA prog G 83 [.p (.int .u64 (u.toNat : Int))] T fun v T' es => v = wint (Lib.bitLen u.toNat : Int) /\ T' = T /\ es = [] := by
 refine CallA.ofBelow (K := fun v => v = wint (Lib.bitLen u.toNat : Int)) ?_
 intro Z ρ w vs hG hst ha
 obtain ⟨v1, us, rfl, r1, ha⟩ := ha.uncons
 obtain rfl := ha.unnil
 obtain rfl := r1.p_inv
 have := u.toNat_lt
 refine Calls.mono (Any.bits_Len64 { sh_LaysCn174 with } (u.toNat : Int) w (by omega) (by omega)) ?_
 rintro e w' ⟨rfl, rfl⟩
 exact ⟨_, wint _, rfl, .p _, rfl, .refl _ _⟩
theorem l10_ok {T : Tbl} {x : Nat} (h : x <= 64) : CallA prog G 82 [wint (x : Int)] T fun v T' es => v = wint (Lib.l10 x : Int) /\ T' = T /\ es = [] := by
 refine CallA.ofBelow (K := fun v => v = wint (Lib.l10 x : Int)) ?_
 intro Z ρ w vs hG hst ha
 obtain ⟨v1, us, rfl, r1, ha⟩ := ha.uncons
 obtain rfl := ha.unnil
 obtain rfl := r1.p_inv
 refine Calls.mono (Any.internal_strconv_log10Pow2 { sh_LaysCn174 with } x h w) ?_
 rintro e w' ⟨rfl, rfl⟩
 exact ⟨_, wint _, rfl, .p _, rfl, .refl _ _⟩
theorem b2_ok {T : Tbl} {b : Bool} : CallA prog G 84 [.p (.bool b)] T fun v T' es => v = wint (if b then 1 else 0) /\ T' = T /\ es = [] := by
 refine CallA.ofBelow (K := fun v => v = wint (if b then 1 else 0)) ?_
 intro Z ρ w vs hG hst ha
 obtain ⟨v1, us, rfl, r1, ha⟩ := ha.uncons
 obtain rfl := ha.unnil
 obtain rfl := r1.p_inv
 refine Calls.mono (Any.internal_strconv_bool2_int { sh_LaysCn174 with } b w) ?_
 rintro e w' ⟨rfl, rfl⟩
 exact ⟨_, wint _, rfl, .p _, rfl, .refl _ _⟩
theorem fmt_ok {T : Tbl} {i : Nat} {u : UInt64} {l : List UInt8} {E : TypeId} (hT : T[i]? = some (.cells E (l.map by8))) (hl : Lib.nDigits u.toNat <= l.length) :
 CallA prog G 74 [.sl i 0 (Lib.nDigits u.toNat), .p (.int .u64 (u.toNat : Int))] T fun v T' es => v = .p (.tuple #[]) /\ T' = T.set i (.cells E ((dn u.toNat ++ l.drop (dn u.toNat).length).map by8)) /\ es = [(i, false)] := by
 intro Z ρ w vs hG hs ha
 obtain ⟨v1, us, rfl, r1, ha⟩ := ha.uncons
 obtain ⟨v2, us, rfl, r2, ha⟩ := ha.uncons
 obtain rfl := ha.unnil
 obtain rfl := r2.p_inv
 have hu := u.toNat_lt
 have hnp := Lib.nDigits_pos u.toNat
 obtain ⟨n, hn⟩ : ∃ n, Lib.nDigits u.toNat = n := ⟨_, rfl⟩
 have hdn : (dn u.toNat).length = n := by rw [dn_nd, hn]
 rw [hn] at r1 hl hnp
 cases r1 with
 | @sl _ _ _ _ c x ad hx hae hc h0 =>
 obtain ⟨hg, blk, vs, e1, e2, e3⟩ := hs.obj _ _ x hT hx
 rw [hae (.inr rfl), e1]
 have hvs : vs = l.map fun b => Value.int .u8 (b.toNat : Int) := by
  refine List.ext_getElem? fun k => ?_
  have hlen := e3.1
  rw [List.length_map] at hlen
  by_cases hk : k < l.length
  . have h1 : (l.map by8)[k]? = some (by8 l[k]) := by rw [List.getElem?_map, List.getElem?_eq_getElem hk]; rfl
    have h2 : vs[k]? = some vs[k] := List.getElem?_eq_getElem (by omega)
    have := (e3.2 k _ _ h1 h2).p_inv
    rw [h2, this, List.getElem?_map, List.getElem?_eq_getElem hk]; rfl
  . rw [List.getElem?_eq_none (by omega), List.getElem?_eq_none (by simpa using hk)]
 obtain ⟨d, hd⟩ : ∃ d, d = (l.take n).toArray := ⟨_, rfl⟩
 have hds : d.size = n := by rw [hd, List.size_toArray, List.length_take]; omega
 have hH : Sort.Holds (fun (b : UInt8) => Value.int .u8 (b.toNat : Int)) w blk 0 d := by
  intro j hj
  rw [Nat.zero_add]
  obtain ⟨h1, h2⟩ := cell_at0 e2 j
  refine ⟨?_, h2⟩
  rw [h1, hvs, List.getElem?_toArray, List.getElem?_map, List.getElem?_eq_getElem (show j < l.length by omega), getElem!_pos d j hj]
  simp [hd]
 have hcall := Any.internal_strconv_formatBase10 (P := prog) (ρ := shR) { sh_LaysCn174 with } blk 0 c u.toNat d w hH (by rw [hds, <- hn]; exact Lib.lt_pow_nDigits _) hu (by rw [hds, <- hn]; have := Lib.nDigits_le20 u.toNat hu; omega)
 rw [hds] at hcall
 refine Calls.mono hcall ?_
 rintro e w' ⟨rfl, q, v', dk, rfl, hI⟩
 have hdk : dk.size = n := by rw [hI.size]
 have hnum : dk.toList = dn u.toNat := by
  rw [<- hn] at hI
  refine List.ext_getElem? fun j => ?_
  by_cases hj : j < n
  . have := Lib.row_is_numeral hI j (by rw [dd_eq]; omega)
    rw [Array.getElem?_toList, Array.getElem?_eq_getElem (by omega), <- getElem!_pos dk j (by omega), <- this]
    exact (List.getElem?_eq_getElem _).symm.trans (congrArg (fun x : List UInt8 => x[j]?) (dd_eq _))
  . rw [List.getElem?_eq_none (by rw [Array.length_toList]; omega), List.getElem?_eq_none (by omega)]
 obtain ⟨g1, g2⟩ := put_at (enc := fun (b : UInt8) => Value.int .u8 (b.toNat : Int)) e2 q dk
 have hnew : (Sort.putCells (fun (b : UInt8) => Value.int .u8 (b.toNat : Int)) 0 dk vs.toArray) = (((dn u.toNat ++ l.drop (dn u.toNat).length).map fun b => Value.int .u8 (b.toNat : Int))).toArray := by
  have := put_list (enc := fun (b : UInt8) => Value.int .u8 (b.toNat : Int)) (cur := vs) (d := dk.toList) (by rw [Array.length_toList, hvs, List.length_map]; omega)
  rw [Array.toArray_toList] at this
  rw [<- Array.toArray_toList (xs := Sort.putCells _ 0 dk vs.toArray), this, hnum, hvs]
  simp
 rw [hnew] at g1
 obtain ⟨k1, k2⟩ := hs.write (w' := (Sort.putRow (fun (b : UInt8) => Value.int .u8 (b.toNat : Int)) w blk 0 dk).drewN q) hT hx rfl (.cells E ((dn u.toNat ++ l.drop (dn u.toNat).length).map by8)) rfl (fun b' hb' => g2 b' fun e => hb' (by rw [e1, e])) ⟨rfl, rfl⟩
  ⟨hg, blk, _, e1, g1, ⟨by simp, fun k a v ha hv => by
   rw [List.getElem?_map] at ha hv
   cases hk : (dn u.toNat ++ l.drop (dn u.toNat).length)[k]? with
   | none => rw [hk] at ha; cases ha
   | some y => rw [hk] at ha hv; cases ha; cases hv; exact .p _⟩⟩
 exact ⟨_, rfl, Z, ρ, _, _, .p (.tuple #[]), k1, k2, .p _, rfl, rfl, rfl⟩
theorem pow_get {k : Nat} (h : k < 20) : powL[k]? = some (.p (.int .u64 ((10 ^ k : Nat) : Int))) := by
 have h1 := Lib.pow10Tab_at k h
 have h2 := Lib.pow10Tab_length
 rw [powL, List.getElem?_map, List.getElem?_eq_getElem (by omega)]
 rw [List.getD_eq_getElem?_getD, List.getElem?_eq_getElem (by omega)] at h1
 have h1 : Lib.pow10Tab[k]'(by omega) = ((10 ^ k : Nat) : Int) := h1
 rw [h1]; rfl
theorem nd_ok {T : Tbl} {u : UInt64} (h1 : 1 <= u.toNat) : CallA prog G 73 [.p (.int .u64 (u.toNat : Int))] T fun v T' es => v = wint (Lib.nDigits u.toNat : Int) /\ T' = T /\ es = [] := by
 have hu := u.toNat_lt
 obtain ⟨e1, e2⟩ := Lib.numDigits_eq u.toNat h1 hu
 have hb : Lib.bitLen u.toNat <= 64 := Lib.bitLenAux_le 64 u.toNat 64 hu
 have hp := pow_get (k := Lib.l10 (Lib.bitLen u.toNat)) (by omega)
 refine CallA.eV 4 func73 ntmps73 results73 ?_
 simp -dsimp +decide only [vr, ty, en, ↓reduceIte, Nat.reduceSub, Nat.reduceAdd, Nat.reduceMul, Nat.reduceLT, Int.reduceAdd, Int.reduceSub, Int.reduceToNat, ci]
 refine len64_ok.det' ?_
 simp -dsimp +decide (disch := omega) only [vr, ty, en, ↓reduceIte, Nat.reduceSub, Nat.reduceAdd, Nat.reduceMul, Nat.reduceLT, Int.reduceAdd, Int.reduceSub, Int.reduceToNat, ci, vi, getO_i, vt]
 refine (l10_ok hb).det' ?_
 simp -dsimp +decide (disch := omega) only [vr, ty, en, ↓reduceIte, Nat.reduceSub, Nat.reduceAdd, Nat.reduceMul, Nat.reduceLT, Int.reduceAdd, Int.reduceSub, Int.reduceToNat, ci, vi, getO_i, vt, Gpow, hp]
 refine ⟨⟨by omega, by omega⟩, b2_ok.det' ?_⟩
 have e3 : (if decide (((10 ^ Lib.l10 (Lib.bitLen u.toNat) : Nat) : Int) <= (u.toNat : Int)) = true then (1 : Int) else 0) = ((if 10 ^ Lib.l10 (Lib.bitLen u.toNat) <= u.toNat then 1 else 0 : Nat) : Int) := by
  by_cases h : 10 ^ Lib.l10 (Lib.bitLen u.toNat) <= u.toNat
  . rw [if_pos h, if_pos (decide_eq_true (Int.ofNat_le.2 h))]; rfl
  . rw [if_neg h, if_neg (by rw [decide_eq_true_iff]; exact fun e => h (Int.ofNat_le.1 e))]; rfl
 rw [e3]
 generalize he : (if 10 ^ Lib.l10 (Lib.bitLen u.toNat) <= u.toNat then 1 else 0 : Nat) = q at e1
 have hq : q <= 1 := by rw [<- he]; split <;> omega
 generalize Lib.l10 (Lib.bitLen u.toNat) = p at *
 have ew : IntKind.i64.wrap ((p : Int) + (q : Int)) = ((p + q : Nat) : Int) := by rw [IntWalk.i64_in _ (by omega)]; omega
 simp -dsimp +decide (disch := omega) only [vr, ty, en, ↓reduceIte, Nat.reduceSub, Nat.reduceAdd, Nat.reduceMul, Nat.reduceLT, Int.reduceAdd, Int.reduceSub, Int.reduceToNat, ci, vi, getO_i, vt, ew]
 refine Vw.done ⟨?_, rfl, rfl⟩
 rw [<- e1]; rfl
theorem app_str (q : Nat -> Bool) (A l : List UInt8) : A.map by8 ++ List.map (AV.wo q) (List.map (fun b : UInt8 => AV.p (.int .u8 (b.toNat : Int))) (ba l).data.toList) = (A ++ l).map by8 := by
 rw [ba_data, List.map_append, List.map_map]; congr 1
def zer24 : List UInt8 := List.replicate 24 0
def App (T : Tbl) (j : Nat) (A B : List UInt8) (v : AV) (T' : Tbl) (es : Eff) : Prop := v = .sl j 0 (A ++ B).length /\ T' = T.set j (bf (A ++ B)) /\ es = [(j, true)]
theorem auint_ok {T : Tbl} {j : Nat} {A : List UInt8} {u : UInt64} (hj : T[j]? = some (bf A)) (hA : A.length + 20 <= 140737488355328) (hq : T.map (AObj.wo fun x => x == j) = T) :
 CallA prog G 64 [.sl j 0 A.length, .p (.int .u64 (u.toNat : Int)), wint 10] T (App T j A (dn u.toNat)) := by
 refine CallA.wfs fun wf => ?_
 have wt := wf.t
 have hjl := (List.getElem?_eq_some_iff.1 hj).1
 rw [bf] at hj
 have hj' : ∀ l : Tbl, (T ++ l)[j]? = some (.buf 5 1 (A.map by8)) := fun l => by rw [List.getElem?_append_left hjl]; exact hj
 have hu := u.toNat_lt
 have hd20 : (dn u.toNat).length <= 20 := by rw [dn_nd]; exact Lib.nDigits_le20 _ hu
 refine CallA.eV 10 func64 ntmps64 results64 ?_
 simp -dsimp +decide only [vr, ty, en, ↓reduceIte, Nat.reduceSub, Nat.reduceAdd, Nat.reduceMul, Nat.reduceLT, Int.reduceAdd, Int.reduceSub, Int.reduceToNat, ci]
 by_cases h100 : u.toNat < 100
 . have h1 : ((u.toNat : Int) < 100) = True := eq_true (by omega)
   simp -dsimp +decide (disch := omega) only [vr, ty, en, ↓reduceIte, Nat.reduceSub, Nat.reduceAdd, Nat.reduceMul, Nat.reduceLT, Int.reduceAdd, Int.reduceSub, Int.reduceToNat, ci, vi, getO_i, vt, h1]
   refine (small_ok (i := u.toNat) h100).det' ?_
   simp -dsimp +decide (disch := omega) only [vr, ty, en, ↓reduceIte, Nat.reduceSub, Nat.reduceAdd, Nat.reduceMul, Nat.reduceLT, Int.reduceAdd, Int.reduceSub, Int.reduceToNat, ci, vi, getO_i, vt, hj, hj', str, app_str, ba_size]
   refine ⟨⟨by omega, by omega⟩, ?_⟩
   rw [hq, rec1_in hjl]
   exact Vw.done ⟨by rw [List.length_append], rfl, rfl⟩
 . have h1 : ((u.toNat : Int) < 100) = False := eq_false (by omega)
   simp -dsimp +decide (disch := omega) only [vr, ty, en, ↓reduceIte, Nat.reduceSub, Nat.reduceAdd, Nat.reduceMul, Nat.reduceLT, Int.reduceAdd, Int.reduceSub, Int.reduceToNat, ci, vi, getO_i, vt, h1]
   refine (nd_ok (by omega)).det' ?_
   simp -dsimp +decide (disch := omega) only [vr, ty, en, ↓reduceIte, Nat.reduceSub, Nat.reduceAdd, Nat.reduceMul, Nat.reduceLT, Int.reduceAdd, Int.reduceSub, Int.reduceToNat, ci, vi, getO_i, vt]
   have hn20 : Lib.nDigits u.toNat <= 20 := Lib.nDigits_le20 _ hu
   refine ⟨by omega, ⟨by omega, by omega⟩, ?_⟩
   refine (fmt_ok (l := zer24) (i := T.length) (E := 104) (by rw [List.getElem?_append_right (Nat.le_refl _), Nat.sub_self]; rfl) (by rw [show zer24.length = 24 from rfl]; omega)).det' ?_
   have hset : ∀ o o' : AObj, (T ++ [o]).set T.length o' = T ++ [o'] := fun o o' => by rw [List.set_append_right _ _ (Nat.le_refl _), Nat.sub_self]; rfl
   have hlen : (dn u.toNat ++ zer24.drop (dn u.toNat).length).length = 24 := by rw [List.length_append, List.length_drop, show zer24.length = 24 from rfl]; omega
   rw [hset]
   have htk : ((dn u.toNat ++ zer24.drop (dn u.toNat).length).map by8).take (Lib.nDigits u.toNat) = (dn u.toNat).map by8 := by rw [<- List.map_take, List.take_left' (by rw [dn_nd])]
   simp -dsimp +decide (disch := omega) only [vr, ty, en, ↓reduceIte, Nat.reduceSub, Nat.reduceAdd, Nat.reduceMul, Nat.reduceLT, Int.reduceAdd, Int.reduceSub, Int.reduceToNat, ci, vi, getO_i, vt, hj, hj', htk, hlen]
   refine ⟨by omega, ⟨by omega, by omega⟩, by omega, ⟨by omega, by omega⟩, ?_⟩
   rw [hq, rec1_in hjl, <- dn_nd]
   rw [List.drop_zero, List.take_left' rfl]
   refine Vw.bf (A := A ++ dn u.toNat) wt.2.1 hjl ⟨by rw [List.length_append], rfl, rfl⟩
def absU (z : Int) : UInt64 := if z < 0 then - UInt64.ofInt z else UInt64.ofInt z
theorem absU_nat {z : Int} (h : -2 ^ 63 <= z /\ z < 2 ^ 63) : (absU z).toNat = z.natAbs := by
 have h2 : (2 : Int) ^ 63 = 9223372036854775808 := rfl
 rw [h2] at h
 have h64 : ((UInt64.ofInt z).toNat : Int) = z % 18446744073709551616 := by rw [<- u64_wrap, IntKind.wrap_u64]
 unfold absU
 split
 . have := Int.natAbs_of_nonneg (show 0 <= -z by omega)
   rw [Int.natAbs_neg] at this
   rw [UInt64.toNat_neg, show UInt64.size = 18446744073709551616 from rfl]; omega
 . have := Int.natAbs_of_nonneg (show 0 <= z by omega)
   omega
theorem set_q {T : Tbl} {j : Nat} {X : List UInt8} (h : T.map (AObj.wo fun x => x == j) = T) : (T.set j (bf X)).map (AObj.wo fun x => x == j) = T.set j (bf X) := by rw [List.map_set, bf_wo, h]
theorem aint_ok {T : Tbl} {j : Nat} {A : List UInt8} {z : Int} (hz : -2 ^ 63 <= z /\ z < 2 ^ 63) (hj : T[j]? = some (bf A)) (hA : A.length + 21 <= 140737488355328) (hq : T.map (AObj.wo fun x => x == j) = T) :
 CallA prog G 50 [.sl j 0 A.length, .p (.int .i64 z), wint 10] T (App T j A (numS z)) := by
 refine CallA.wfs fun wf => ?_
 have wt := wf.t
 have hjl := (List.getElem?_eq_some_iff.1 hj).1
 have hj0 := hj
 rw [bf] at hj
 have hnat := absU_nat hz
 refine CallA.eV 8 func50 ntmps50 results50 ?_
 simp -dsimp +decide only [vr, ty, en, ↓reduceIte, Nat.reduceSub, Nat.reduceAdd, Nat.reduceMul, Nat.reduceLT, Int.reduceAdd, Int.reduceSub, Int.reduceToNat, ci]
 have hj' : ∀ l : Tbl, (T ++ l)[j]? = some (.buf 5 1 (A.map by8)) := fun l => by rw [List.getElem?_append_left hjl]; exact hj
 by_cases hneg : z < 0
 . have h1 : (z < 0) = True := eq_true hneg
   have hns : numS z = 45 :: dn (absU z).toNat := by rw [numS, if_pos hneg, hnat]; congr 2; omega
   simp -dsimp +decide (disch := omega) only [vr, ty, en, ↓reduceIte, Nat.reduceSub, Nat.reduceAdd, Nat.reduceMul, Nat.reduceLT, Int.reduceAdd, Int.reduceSub, Int.reduceToNat, ci, vi, getO_i, vt, h1, hj']
   refine ⟨⟨by omega, by omega⟩, ?_⟩
   have hu : UInt64.ofInt 0 - UInt64.ofInt z = absU z := by rw [absU, if_pos hneg]; exact UInt64.zero_sub _
   have hb : AObj.buf 5 1 (List.map by8 A ++ [AV.p (.int .u8 45)]) = bf (A ++ [45]) := by rw [bf, List.map_append]; rfl
   rw [hq, hu, hb, rec1_in hjl]
   have hlen : A.length + 1 = (A ++ [45]).length := by simp
   rw [hlen]
   have hjl2 : j < (T ++ [AObj.buf 5 1 [AV.p (.int .u8 45)]]).length := by rw [List.length_append]; omega
   refine (auint_ok (T := (T ++ [AObj.buf 5 1 [AV.p (.int .u8 45)]]).set j (bf (A ++ [45]))) (by rw [List.getElem?_set_self hjl2]) (by rw [<- hlen]; omega) (set_q (by rw [List.map_append, hq]; rfl))).mono ?_
   rintro v T' es ⟨rfl, rfl, rfl⟩
   rw [List.set_set]
   simp -dsimp +decide (disch := omega) only [vr, ty, en, ↓reduceIte, Nat.reduceSub, Nat.reduceAdd, Nat.reduceMul, Nat.reduceLT, Int.reduceAdd, Int.reduceSub, Int.reduceToNat, ci, vi, getO_i, vt]
   refine Vw.eff (E' := [(j, true)]) (by simp [rec1_in hjl]) ?_
   refine Vw.bf wt.2.1 hjl ⟨?_, ?_, rfl⟩
   . rw [hns]; simp
   . rw [hns, List.append_assoc]; rfl
 . have h1 : (z < 0) = False := eq_false hneg
   have hu : UInt64.ofInt z = absU z := by rw [absU, if_neg hneg]
   have hns : numS z = dn (absU z).toNat := by rw [numS, if_neg hneg, hnat]; congr 1; omega
   simp -dsimp +decide (disch := omega) only [vr, ty, en, ↓reduceIte, Nat.reduceSub, Nat.reduceAdd, Nat.reduceMul, Nat.reduceLT, Int.reduceAdd, Int.reduceSub, Int.reduceToNat, ci, vi, getO_i, vt, h1]
   rw [hu]
   refine (auint_ok hj0 (by omega) hq).mono ?_
   rintro v T' es ⟨rfl, rfl, rfl⟩
   simp -dsimp +decide (disch := omega) only [vr, ty, en, ↓reduceIte, Nat.reduceSub, Nat.reduceAdd, Nat.reduceMul, Nat.reduceLT, Int.reduceAdd, Int.reduceSub, Int.reduceToNat, ci, vi, getO_i, vt]
   refine Vw.done ⟨?_, ?_, rec1_in hjl _ _⟩
   . rw [hns]
   . rw [hns]
end Go.Proofs.YtglpcedoongagaaDoor
namespace Go.Proofs.YtglpcedoongagaaDoor
open Go.E Go.Proofs.YtglpcedoongagaaDoor.Tryd Go.Proofs.Tryd Go.J Go.Proofs
theorem pow2_ok {T : Tbl} : CallA prog G 85 [wint 16] T fun v T' es => v = .p (.bool true) /\ T' = T /\ es = [] := by
 refine CallA.eV 3 func85 ntmps85 results85 ?_
 simp -dsimp +decide only [vy, vz, vze, vr, ty, en, ↓reduceIte, Nat.reduceSub, Nat.reduceAdd, Nat.reduceMul, Nat.reduceLT, Int.reduceAdd, Int.reduceSub, Int.reduceToNat, ci]
 exact Vw.done ⟨rfl, rfl, rfl⟩
theorem tz64_ok {T : Tbl} : CallA prog G 89 [.p (.int .u64 16)] T fun v T' es => v = wint 4 /\ T' = T /\ es = [] := by
 refine CallA.eV 3 func89 ntmps89 results89 ?_
 simp -dsimp +decide only [vy, vz, vze, vr, ty, en, ↓reduceIte, Nat.reduceSub, Nat.reduceAdd, Nat.reduceMul, Nat.reduceLT, Int.reduceAdd, Int.reduceSub, Int.reduceToNat, ci]
 have hk : dbjL[(u64_shr ((UInt64.ofInt 16 &&& UInt64.ofInt (-16)) * UInt64.ofInt 285870213051353865) 58).toNat]? = some 4 := by decide +kernel
 simp -dsimp +decide (disch := omega) only [vy, vz, vze, vr, ty, en, ↓reduceIte, Nat.reduceSub, Nat.reduceAdd, Nat.reduceMul, Nat.reduceLT, Int.reduceAdd, Int.reduceSub, Int.reduceToNat, ci, vi, getO_i, vt, Gdbj, hk]
 exact Vw.done ⟨rfl, rfl, rfl⟩
theorem tz_ok {T : Tbl} : CallA prog G 86 [.p (.int .u64 16)] T fun v T' es => v = wint 4 /\ T' = T /\ es = [] := by
 refine CallA.eV 3 func86 ntmps86 results86 ?_
 simp -dsimp +decide only [vy, vz, vze, vr, ty, en, ↓reduceIte, Nat.reduceSub, Nat.reduceAdd, Nat.reduceMul, Nat.reduceLT, Int.reduceAdd, Int.reduceSub, Int.reduceToNat, ci]
 refine tz64_ok.det' ?_
 simp -dsimp +decide (disch := omega) only [vy, vz, vze, vr, ty, en, ↓reduceIte, Nat.reduceSub, Nat.reduceAdd, Nat.reduceMul, Nat.reduceLT, Int.reduceAdd, Int.reduceSub, Int.reduceToNat, ci, vi, getO_i, vt]
 exact Vw.done ⟨rfl, rfl, rfl⟩
theorem d36 {n : Nat} (h : n < 16) : (ByteArray.mk #[48, 49, 50, 51, 52, 53, 54, 55, 56, 57, 97, 98, 99, 100, 101, 102, 103, 104, 105, 106, 107, 108, 109, 110, 111, 112, 113, 114, 115, 116, 117, 118, 119, 120, 121, 122])[n]? = some (hexd n) := by
 have : ∀ i : Fin 16, (ByteArray.mk #[48, 49, 50, 51, 52, 53, 54, 55, 56, 57, 97, 98, 99, 100, 101, 102, 103, 104, 105, 106, 107, 108, 109, 110, 111, 112, 113, 114, 115, 116, 117, 118, 119, 120, 121, 122])[i.val]? = some (hexd i.val) := by decide +kernel
 exact this ⟨n, h⟩
theorem fb_ok {T : Tbl} {j : Nat} {A : List UInt8} {u : UInt64} (hu : u.toNat < 16) (hj : T[j]? = some (bf A)) (hA : A.length + 20 <= 140737488355328) (hq : T.map (AObj.wo fun x => x == j) = T) :
 CallA prog G 75 [.sl j 0 A.length, .p (.int .u64 (u.toNat : Int)), wint 16, .p (.bool false), .p (.bool true)] T fun v T' es => (∃ s, v = .tu [.sl j 0 (A ++ [hexd u.toNat]).length, .p (.string s)]) /\ T' = T.set j (bf (A ++ [hexd u.toNat])) /\ es = [(j, true)] := by
 refine CallA.wfs fun wf => ?_
 have wt := wf.t
 have hjl := (List.getElem?_eq_some_iff.1 hj).1
 rw [bf] at hj
 have hj' : ∀ l : Tbl, (T ++ l)[j]? = some (.buf 5 1 (A.map by8)) := fun l => by rw [List.getElem?_append_left hjl]; exact hj
 have hz65 : ∃ zs : List AV, zs = List.replicate 65 (.p (.int .u8 0)) := ⟨_, rfl⟩
 obtain ⟨zs, hzs⟩ := hz65
 have h16 : ((16 : Int) <= (u.toNat : Int)) = False := eq_false (by omega)
 refine CallA.eV 19 func75 ntmps75 results75 ?_
 simp -dsimp +decide only [vy, vz, vze, vr, ty, en, ↓reduceIte, Nat.reduceSub, Nat.reduceAdd, Nat.reduceMul, Nat.reduceLT, Int.reduceAdd, Int.reduceSub, Int.reduceToNat, ci]
 have hzl : zs.length = 65 := by rw [hzs]; simp
 have hzs' := hzs
 simp only [List.replicate] at hzs'
 rw [<- hzs']
 refine pow2_ok.det' ?_
 simp -dsimp +decide (disch := omega) only [vy, vz, vze, vr, ty, en, ↓reduceIte, Nat.reduceSub, Nat.reduceAdd, Nat.reduceMul, Nat.reduceLT, Int.reduceAdd, Int.reduceSub, Int.reduceToNat, ci, vi, getO_i, vt]
 refine tz_ok.det' ?_
 simp -dsimp +decide (disch := omega) only [vy, vz, vze, vr, ty, en, ↓reduceIte, Nat.reduceSub, Nat.reduceAdd, Nat.reduceMul, Nat.reduceLT, Int.reduceAdd, Int.reduceSub, Int.reduceToNat, ci, vi, getO_i, vt]
 refine SemA.loopE (fun _ : Unit => [(0, .sl j 0 A.length), (1, .p (.int .u64 (u.toNat : Int))), (3, .p (.bool false)), (4, .p (.bool true)), (11, .p (.string ⟨#[]⟩)), (12, .ptr T.length 0), (13, wint 65), (15, .p (.int .u64 16))]) (fun _ => T ++ [.cells 117 zs]) (fun _ => True) (fun _ => 0) () [] 0 (fun _ : Unit => [(0, .sl j 0 A.length), (1, .p (.int .u64 (u.toNat : Int))), (3, .p (.bool false)), (4, .p (.bool true)), (11, .p (.string ⟨#[]⟩)), (12, .ptr T.length 0), (13, wint 65)]) (fun _ => T ++ [.cells 117 zs]) (fun _ => True) trivial (by (simp -dsimp +decide (disch := omega) only [vy, vz, vze, vr, ty, en, ↓reduceIte, Nat.reduceSub, Nat.reduceAdd, Nat.reduceMul, Nat.reduceLT, Int.reduceAdd, Int.reduceSub, Int.reduceToNat, ci, vi, getO_i]); first | rfl | done) rfl (by simp) ?_ ?_
 . rintro _ g _
   refine SemA.o ?_
   simp -dsimp +decide (disch := omega) only [vy, vz, vze, vr, ty, en, ↓reduceIte, Nat.reduceSub, Nat.reduceAdd, Nat.reduceMul, Nat.reduceLT, Int.reduceAdd, Int.reduceSub, Int.reduceToNat, ci, vi, getO_i, vt, h16]
   exact ⟨(), trivial⟩
 rintro _ g tmp _
 have hd : List.drop 64 (zs.set 64 (.p (.int .u8 ((hexd u.toNat).toNat : Int)))) = [.p (.int .u8 ((hexd u.toNat).toNat : Int))] := by
  rw [List.set_eq_take_append_cons_drop, if_pos (by omega), List.drop_left' (by rw [List.length_take]; omega), List.drop_eq_nil_of_le (by omega)]
 have hon : ones [AV.p (.int .u8 ((hexd u.toNat).toNat : Int))] = true := rfl
 have hls : ∀ x : AV, (zs.set 64 x).length = 65 := fun x => by rw [List.length_set, hzl]
 simp -dsimp +decide (disch := omega) only [vy, vz, vze, vr, ty, en, ↓reduceIte, Nat.reduceSub, Nat.reduceAdd, Nat.reduceMul, Nat.reduceLT, Int.reduceAdd, Int.reduceSub, Int.reduceToNat, ci, vi, getO_i, vt, hj', hzl, d36 hu, hd, hon, hls]
 refine ⟨⟨by omega, by omega⟩, ?_⟩
 rw [hq, rec1_in hjl]
 rw [List.set_append_left _ _ hjl]
 refine Vw.cutN T.length (Nat.le_refl _) ?_
 rw [List.take_left' (by simp), List.map_set, wt.2.1, show AObj.buf 5 1 (List.map by8 (A ++ [hexd u.toNat])) = bf (A ++ [hexd u.toNat]) from rfl, bf_wo]
 have e1 : (AV.sl j 0 (A.length + 1)).wo (fun i => decide (T.length <= i)) = .sl j 0 (A.length + 1) := by
  rw [AV.wo, if_neg (by simp; omega)]
 have e : (AV.tu [AV.sl j 0 (A.length + 1), AV.p (.string ⟨#[]⟩)]).wo (fun i => decide (T.length <= i)) = .tu [AV.sl j 0 (A.length + 1), AV.p (.string ⟨#[]⟩)] := by
  rw [AV.wo, AV.woL_eq, List.map_cons, e1]; rfl
 rw [e]
 exact Vw.done ⟨⟨_, by rw [List.length_append]; rfl⟩, rfl, rfl⟩
theorem au16_ok {T : Tbl} {j : Nat} {A : List UInt8} {u : UInt64} (hu : u.toNat < 16) (hj : T[j]? = some (bf A)) (hA : A.length + 20 <= 140737488355328) (hq : T.map (AObj.wo fun x => x == j) = T) :
 CallA prog G 64 [.sl j 0 A.length, .p (.int .u64 (u.toNat : Int)), wint 16] T (App T j A [hexd u.toNat]) := by
 have hjl := (List.getElem?_eq_some_iff.1 hj).1
 refine CallA.eV 10 func64 ntmps64 results64 ?_
 simp -dsimp +decide only [vy, vz, vze, vr, ty, en, ↓reduceIte, Nat.reduceSub, Nat.reduceAdd, Nat.reduceMul, Nat.reduceLT, Int.reduceAdd, Int.reduceSub, Int.reduceToNat, ci]
 refine (fb_ok hu hj hA hq).mono ?_
 rintro v T' es ⟨⟨s, rfl⟩, rfl, rfl⟩
 simp -dsimp +decide (disch := omega) only [vy, vz, vze, vr, ty, en, ↓reduceIte, Nat.reduceSub, Nat.reduceAdd, Nat.reduceMul, Nat.reduceLT, Int.reduceAdd, Int.reduceSub, Int.reduceToNat, ci, vi, getO_i, vt]
 exact Vw.done ⟨rfl, rfl, rec1_in hjl _ _⟩
theorem AU16_ok {T : Tbl} {j : Nat} {A : List UInt8} {u : UInt64} (hu : u.toNat < 16) (hj : T[j]? = some (bf A)) (hA : A.length + 20 <= 140737488355328) (hq : T.map (AObj.wo fun x => x == j) = T) :
 CallA prog G 52 [.sl j 0 A.length, .p (.int .u64 (u.toNat : Int)), wint 16] T (App T j A [hexd u.toNat]) := by
 have hjl := (List.getElem?_eq_some_iff.1 hj).1
 refine CallA.eV 7 func52 ntmps52 results52 ?_
 simp -dsimp +decide only [vy, vz, vze, vr, ty, en, ↓reduceIte, Nat.reduceSub, Nat.reduceAdd, Nat.reduceMul, Nat.reduceLT, Int.reduceAdd, Int.reduceSub, Int.reduceToNat, ci]
 refine (au16_ok hu hj hA hq).mono ?_
 rintro v T' es ⟨rfl, rfl, rfl⟩
 simp -dsimp +decide (disch := omega) only [vy, vz, vze, vr, ty, en, ↓reduceIte, Nat.reduceSub, Nat.reduceAdd, Nat.reduceMul, Nat.reduceLT, Int.reduceAdd, Int.reduceSub, Int.reduceToNat, ci, vi, getO_i, vt]
 exact Vw.done ⟨rfl, rfl, rec1_in hjl _ _⟩
theorem AI_ok {T : Tbl} {j : Nat} {A : List UInt8} {z : Int} (hz : -2 ^ 63 <= z /\ z < 2 ^ 63) (hj : T[j]? = some (bf A)) (hA : A.length + 21 <= 140737488355328) (hq : T.map (AObj.wo fun x => x == j) = T) :
 CallA prog G 33 [.sl j 0 A.length, .p (.int .i64 z), wint 10] T (App T j A (numS z)) := by
 have hjl := (List.getElem?_eq_some_iff.1 hj).1
 refine CallA.eV 7 func33 ntmps33 results33 ?_
 simp -dsimp +decide only [vy, vz, vze, vr, ty, en, ↓reduceIte, Nat.reduceSub, Nat.reduceAdd, Nat.reduceMul, Nat.reduceLT, Int.reduceAdd, Int.reduceSub, Int.reduceToNat, ci]
 refine (aint_ok hz hj hA hq).mono ?_
 rintro v T' es ⟨rfl, rfl, rfl⟩
 simp -dsimp +decide (disch := omega) only [vy, vz, vze, vr, ty, en, ↓reduceIte, Nat.reduceSub, Nat.reduceAdd, Nat.reduceMul, Nat.reduceLT, Int.reduceAdd, Int.reduceSub, Int.reduceToNat, ci, vi, getO_i, vt]
 exact Vw.done ⟨rfl, rfl, rec1_in hjl _ _⟩
def bws (b : Bool) : List UInt8 := if b then [116, 114, 117, 101] else [102, 97, 108, 115, 101]
theorem ab_ok {T : Tbl} {j : Nat} {A : List UInt8} {b : Bool} (hj : T[j]? = some (bf A)) (hA : A.length + 20 <= 140737488355328) (hq : T.map (AObj.wo fun x => x == j) = T) :
 CallA prog G 49 [.sl j 0 A.length, .p (.bool b)] T (App T j A (bws b)) := by
 have hjl := (List.getElem?_eq_some_iff.1 hj).1
 rw [bf] at hj
 cases b with
 | false =>
   refine CallA.eV 5 func49 ntmps49 results49 ?_
   simp -dsimp +decide only [vy, vz, vze, vr, ty, en, ↓reduceIte, Nat.reduceSub, Nat.reduceAdd, Nat.reduceMul, Nat.reduceLT, Int.reduceAdd, Int.reduceSub, Int.reduceToNat, ci]
   simp -dsimp +decide (disch := omega) only [vy, vz, vze, vr, ty, en, ↓reduceIte, Nat.reduceSub, Nat.reduceAdd, Nat.reduceMul, Nat.reduceLT, Int.reduceAdd, Int.reduceSub, Int.reduceToNat, ci, vi, getO_i, vt, hj]
   refine ⟨⟨by show A.length + 5 <= _; omega, by show A.length + 5 <= _; omega⟩, ?_⟩
   rw [hq, rec1_in hjl]
   refine Vw.done ⟨by rw [List.length_append]; rfl, ?_, rfl⟩
   congr 1
   rw [bf, List.map_append]; rfl
 | true =>
   refine CallA.eV 5 func49 ntmps49 results49 ?_
   simp -dsimp +decide only [vy, vz, vze, vr, ty, en, ↓reduceIte, Nat.reduceSub, Nat.reduceAdd, Nat.reduceMul, Nat.reduceLT, Int.reduceAdd, Int.reduceSub, Int.reduceToNat, ci]
   simp -dsimp +decide (disch := omega) only [vy, vz, vze, vr, ty, en, ↓reduceIte, Nat.reduceSub, Nat.reduceAdd, Nat.reduceMul, Nat.reduceLT, Int.reduceAdd, Int.reduceSub, Int.reduceToNat, ci, vi, getO_i, vt, hj]
   refine ⟨⟨by show A.length + 4 <= _; omega, by show A.length + 4 <= _; omega⟩, ?_⟩
   rw [hq, rec1_in hjl]
   refine Vw.done ⟨by rw [List.length_append]; rfl, ?_, rfl⟩
   congr 1
   rw [bf, List.map_append]; rfl
theorem AB_ok {T : Tbl} {j : Nat} {A : List UInt8} {b : Bool} (hj : T[j]? = some (bf A)) (hA : A.length + 20 <= 140737488355328) (hq : T.map (AObj.wo fun x => x == j) = T) :
 CallA prog G 32 [.sl j 0 A.length, .p (.bool b)] T (App T j A (bws b)) := by
 have hjl := (List.getElem?_eq_some_iff.1 hj).1
 refine CallA.eV 5 func32 ntmps32 results32 ?_
 simp -dsimp +decide only [vy, vz, vze, vr, ty, en, ↓reduceIte, Nat.reduceSub, Nat.reduceAdd, Nat.reduceMul, Nat.reduceLT, Int.reduceAdd, Int.reduceSub, Int.reduceToNat, ci]
 refine (ab_ok hj hA hq).mono ?_
 rintro v T' es ⟨rfl, rfl, rfl⟩
 simp -dsimp +decide (disch := omega) only [vy, vz, vze, vr, ty, en, ↓reduceIte, Nat.reduceSub, Nat.reduceAdd, Nat.reduceMul, Nat.reduceLT, Int.reduceAdd, Int.reduceSub, Int.reduceToNat, ci, vi, getO_i, vt]
 exact Vw.done ⟨rfl, rfl, rec1_in hjl _ _⟩
end Go.Proofs.YtglpcedoongagaaDoor
