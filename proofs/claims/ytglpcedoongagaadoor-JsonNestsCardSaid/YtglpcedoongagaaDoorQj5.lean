/-
  'scantlinglaw06.JsonNests' returns true whatever comes, and leaves what came as it was; its row's listed variable is tied to the program's text. No condition.
-/
import Derived.Test.YtglpcedoongagaaDoorQj4
import Derived.Test.YtglpcedoongagaaDoorRows
import Derived.LaidMore
import Derived.Lay
import Derived.Stop.LaidErr
import Derived.OpenShut
import Derived.Stop.Joined
import Derived.Test.YtglpcedoongagaaDoorCards
import Derived.Test.YtglpcedoongagaaDoorTie
import Derived.SevenTiedAt
import Derived.ChangeCalls
set_option linter.unusedSimpArgs false
set_option linter.unusedVariables false
set_option linter.unusedSectionVars false
set_option maxRecDepth 8000
set_option maxHeartbeats 4000000
namespace Go.Proofs.YtglpcedoongagaaDoor
open Go.ChangeShapes Go.WideShapes Go.ChangeAt Go.RowKit Go.E Go.Proofs.YtglpcedoongagaaDoor.Tryd Go.Proofs.Tryd
theorem own : ownKnob prog.godebug = none := by kernel_rfl
theorem laidOut : laidOutB prog = true := by kernel_rfl
theorem g64 : prog.globalNamed "math/bits.deBruijn64tab" = some 7 := by kernel_rfl
theorem gpw : prog.globalNamed "internal/strconv.uint64pow10" = some 4 := by kernel_rfl
theorem gac : prog.globalNamed "unicode/utf8.acceptRanges" = some 1 := by kernel_rfl
theorem ger : prog.globalNamed "strconv.ErrRange" = some 3 := by kernel_rfl
theorem gfi : prog.globalNamed "unicode/utf8.first" = some 0 := by kernel_rfl
theorem starE : "*" ++ "errors.errorString" = "*errors.errorString" := by decide
theorem only (u : TypeId) (h : prog.typeName? 3 u = some "*errors.errorString") : u = 121 :=
 typeName_ptr_named (nm := "errors.errorString") (by rw [starE]; kernel_rfl) (by kernel_rfl) (by decide) u (by rw [starE]; exact h)
theorem gdat {W : World} {n : String} {t0 : TypeId} {g : Nat} {cs : Array Value} {fuel : Nat} {d : DataW Unit} {p : List MemPlace} {ts : List TypeId} (hc : closedT prog ts = true) (hg : prog.globalNamed n = some g) (hv : W.var? prog n = some cs) (ht : t0 ∈ ts)
 (hd : DataW.trod (fun _ => ()) prog W 0 (fun _ => true) false fuel t0 cs.toList = some (d, p)) (hw : (d.weights prog t0).all (· <= reachBytes) = true) (hne : decide (0 < prog.cellsOf t0) = true) : Rel (wholeH W) [] (.vp (toD d).avs 0) (.pointer (some ⟨g, 0, none⟩)) := by
 obtain ⟨dd, -, h2, h3, rfl⟩ := trod_dat hc fuel t0 cs.toList (d, p) ht hd (fun n hn => by simpa using List.all_eq_true.1 hw n hn)
 have hrd : Rd W (some ⟨g, 0, none⟩) cs.toList := by
  refine .inr ⟨_, rfl, rfl, fun k v hk => ?_⟩
  have := World.var?_cell hg hv k
  rw [add_plain rfl]
  simp only [Nat.zero_add]
  rw [this]
  simpa using hk
 exact rel_vp0 h2 (by intro e; rw [e] at h3; have := of_decide_eq_true hne; simp at h3; omega) (arr_holds (wholeH_whole W) hrd)
theorem gok {W : World} (h : laidMetH prog [("math/bits.deBruijn32tab", Rows.laid_math_bits_deBruijn32tab), ("math/bits.deBruijn64tab", Rows.laid_math_bits_deBruijn64tab), ("internal/strconv.uint64pow10", Rows.laid_internal_strconv_uint64pow10), ("unicode/utf8.acceptRanges", Rows.laid_unicode_utf8_acceptRanges), ("strconv.ErrRange", Rows.laid_strconv_ErrRange), ("strconv.ErrSyntax", Rows.laid_strconv_ErrSyntax), ("unicode/utf8.first", Rows.laid_unicode_utf8_first)] W) : GOK G (wholeH W) := by
 rw [MakeChecks.laidMetH_plain _ _ _ (by kernel_rfl)] at h
 obtain ⟨ps, ⟨g0, t0, cs0, f0, p0, q0, hg0, ht0, hv0, hd0, ⟨g1, t1, cs1, f1, p1, q1, hg1, ht1, hv1, hd1, ⟨g2, t2, cs2, f2, p2, q2, hg2, ht2, hv2, hd2, ⟨g3, t3, cs3, f3, p3, q3, hg3, ht3, hv3, hd3, ⟨g4, t4, cs4, f4, p4, q4, hg4, ht4, hv4, hd4, ⟨g5, t5, cs5, f5, p5, q5, hg5, ht5, hv5, hd5, ⟨g6, t6, cs6, f6, p6, q6, hg6, ht6, hv6, hd6, _⟩, _⟩, _⟩, _⟩, _⟩, _⟩, _⟩, _, _⟩ := h
 obtain rfl := Option.some.inj (g64.symm.trans hg1)
 obtain rfl := Option.some.inj (gpw.symm.trans hg2)
 obtain rfl := Option.some.inj (gac.symm.trans hg3)
 obtain rfl := Option.some.inj (ger.symm.trans hg4)
 obtain rfl := Option.some.inj (gfi.symm.trans hg6)
 obtain rfl := Option.some.inj ((show (prog.globals[7]?).map (·.type) = some 127 by kernel_rfl).symm.trans ht1)
 obtain rfl := Option.some.inj ((show (prog.globals[4]?).map (·.type) = some 116 by kernel_rfl).symm.trans ht2)
 obtain rfl := Option.some.inj ((show (prog.globals[1]?).map (·.type) = some 91 by kernel_rfl).symm.trans ht3)
 obtain rfl := Option.some.inj ((show (prog.globals[3]?).map (·.type) = some 73 by kernel_rfl).symm.trans ht4)
 obtain rfl := Option.some.inj ((show (prog.globals[0]?).map (·.type) = some 88 by kernel_rfl).symm.trans ht6)
 have r1 := gdat (ts := [127, 5]) (by kernel_rfl) g64 hv1 (by simp) hd1 (by kernel_rfl) (by kernel_rfl)
 have r2 := gdat (ts := [116, 86]) (by kernel_rfl) gpw hv2 (by simp) hd2 (by kernel_rfl) (by kernel_rfl)
 have r3 := gdat (ts := [91, 90, 5]) (by kernel_rfl) gac hv3 (by simp) hd3 (by kernel_rfl) (by kernel_rfl)
 have r6 := gdat (ts := [88, 5]) (by kernel_rfl) gfi hv6 (by simp) hd6 (by kernel_rfl) (by kernel_rfl)
 rw [show (toD Rows.laid_math_bits_deBruijn64tab).avs = dbjL.map by8 by kernel_rfl] at r1
 rw [show (toD Rows.laid_internal_strconv_uint64pow10).avs = powL by kernel_rfl] at r2
 rw [show (toD Rows.laid_unicode_utf8_acceptRanges).avs = accL.map by8 by kernel_rfl] at r3
 rw [show (toD Rows.laid_unicode_utf8_first).avs = firL.map by8 by kernel_rfl] at r6
 have r4 : Rel (wholeH W) [] (.vp [.ic 121 .any] 0) (.pointer (some ⟨3, 0, none⟩)) := by
  have hu : ∃ ms, prog.underlying 73 = some (.interface ms) := by
   have : (match prog.underlying 73 with | some (.interface _) => true | _ => false) = true := by kernel_rfl
   split at this
   . rename_i ms h; exact ⟨ms, h⟩
   . cases this
  obtain ⟨ms, hu⟩ := hu
  obtain ⟨v, hcs⟩ : ∃ v, cs4.toList = [.iface 121 v] := by
   cases f4 with
   | zero => simp [DataW.trod] at hd4
   | succ f =>
     unfold DataW.trod at hd4
     rw [hu] at hd4
     dsimp only at hd4
     generalize cs4.toList = l at hd4 ⊢
     rcases l with _ | ⟨v, _ | ⟨y, r⟩⟩
     . simp at hd4
     . cases v with
       | iface u x =>
         dsimp only at hd4
         cases hn : prog.typeName? 3 u with
         | none => rw [hn] at hd4; cases hd4
         | some name =>
           rw [hn] at hd4
           dsimp only at hd4
           obtain ⟨z, -, he⟩ := Option.map_eq_some_iff.1 hd4
           have he := (Prod.mk.inj he).1
           have hname : name = "*errors.errorString" := (DataW.iface.inj he).1
           rw [hname] at hn
           exact ⟨x, by rw [only u hn]⟩
       | nilIface => exact absurd (Prod.mk.inj (Option.some.inj hd4)).1 (fun e => by cases e)
       | _ => simp at hd4
     . simp at hd4
  have hrd : Rd W (some ⟨3, 0, none⟩) cs4.toList := by
   refine .inr ⟨_, rfl, rfl, fun k v hk => ?_⟩
   have := World.var?_cell ger hv4 k
   rw [add_plain rfl]
   simp only [Nat.zero_add]
   rw [this]
   simpa using hk
  rw [hcs] at hrd
  exact rel_vp0 (.cons (.ic (.any v)) .nil) (by simp) (arr_holds (wholeH_whole W) hrd)
 intro g
 unfold G
 split
 . rename_i h0; subst h0; exact r6
 split
 . rename_i h0; subst h0; exact r3
 split
 . rename_i h0; subst h0; exact r2
 split
 . rename_i h0; subst h0; exact r1
 split
 . rename_i h0; subst h0; exact r4
 . exact .p _
theorem laid_met (os : Os) (args : Array Value) : laidMetH prog [("math/bits.deBruijn32tab", Rows.laid_math_bits_deBruijn32tab), ("math/bits.deBruijn64tab", Rows.laid_math_bits_deBruijn64tab), ("internal/strconv.uint64pow10", Rows.laid_internal_strconv_uint64pow10), ("unicode/utf8.acceptRanges", Rows.laid_unicode_utf8_acceptRanges), ("strconv.ErrRange", Rows.laid_strconv_ErrRange), ("strconv.ErrSyntax", Rows.laid_strconv_ErrSyntax), ("unicode/utf8.first", Rows.laid_unicode_utf8_first)] ((World.laidAll prog os [("math/bits.deBruijn32tab", Rows.laid_math_bits_deBruijn32tab), ("math/bits.deBruijn64tab", Rows.laid_math_bits_deBruijn64tab), ("internal/strconv.uint64pow10", Rows.laid_internal_strconv_uint64pow10), ("unicode/utf8.acceptRanges", Rows.laid_unicode_utf8_acceptRanges), ("strconv.ErrRange", Rows.laid_strconv_ErrRange), ("strconv.ErrSyntax", Rows.laid_strconv_ErrSyntax), ("unicode/utf8.first", Rows.laid_unicode_utf8_first)]).forCall (fun _ _ => 0) ⟨#[], args, []⟩).memory := by
 rw [MakeChecks.laidMetH_plain _ _ _ (by kernel_rfl)]; exact laidMet_laidAll _ (by kernel_rfl) (by kernel_rfl)
end Go.Proofs.YtglpcedoongagaaDoor
namespace Go.Proofs.YtglpcedoongagaaDoor.jsonNestsL
open Go.ChangeShapes Go.WideShapes Go.ChangeAt Go.RowKit Go.E Go.Proofs.YtglpcedoongagaaDoor.Tryd Go.Proofs.Tryd
set_option maxRecDepth 100000 in
theorem contract (H : Type) (enc : TypeId × Value -> H) (W : World) (base : Nat) (args : Array Value) (ds gs : List (DataW H)) (before : List MemPlace)
 (hval : ∀ (j : Nat) t v, Tryd.f5.params[j]? = some t -> args[j]? = some v -> Value.okWide prog W .any base t v)
 (hW : DataW.Whole enc prog Tryd.f5.params.toList Rows.jsonNestsSpec.vars false W args.toList ds gs before)
 (hz : (DataW.weightsEach prog (Tryd.f5.params.toList ++ Rows.jsonNestsSpec.plain.varTypes prog) (ds ++ gs)).all (· <= reachBytes) = true)
 (hL : laidMetH prog [("math/bits.deBruijn32tab", Rows.laid_math_bits_deBruijn32tab), ("math/bits.deBruijn64tab", Rows.laid_math_bits_deBruijn64tab), ("internal/strconv.uint64pow10", Rows.laid_internal_strconv_uint64pow10), ("unicode/utf8.acceptRanges", Rows.laid_unicode_utf8_acceptRanges), ("strconv.ErrRange", Rows.laid_strconv_ErrRange), ("strconv.ErrSyntax", Rows.laid_strconv_ErrSyntax), ("unicode/utf8.first", Rows.laid_unicode_utf8_first)] W) :
 Calls prog 5 args W fun e W' => ∃ v, e = .returned v /\ Rows.jsonNestsSpec.post enc prog Tryd.f5 false true false false W args v W' := by
 have hn : ds.length = 2 := by
  obtain ⟨p, q, hA, _⟩ := hW
  rw [Tryd.params5] at hA
  exact (trodAll_length hA).2
 have hg : gs = [] := by
  obtain ⟨p, q, hA, hV, _⟩ := hW
  exact (trodVars_none hV).1
 subst hg
 refine law_callsA (tys := [5, 4]) 4 laidOut (by kernel_rfl) (by kernel_rfl) Tryd.underlying4 rfl ?_ hW (by kernel_rfl) (by kernel_rfl) hval hz (gok hL) ?_
 . match ds, hn with
   | [_, _], _ => rfl
 intro xs hx
 rw [Tryd.params5] at hx
 cases hx with | cons h0 hx =>
 cases hx with | cons h1 hx =>
 cases hx
 obtain ⟨a0, rfl⟩ := open_u8 Tryd.underlying5 _ h0
 obtain ⟨a1, rfl⟩ := h1.bool Tryd.underlying4
 simp only [List.map_cons, List.map_nil]
 exact (nests_ok (T := []) (c := a0) (o := a1)).mono fun v T E h => h.1
set_option maxRecDepth 100000 in
theorem lifted (os : Os) (started : os.Started) (H : Type) (enc : TypeId × Value -> H) :
 ReturnsInHanded {} Tryd.checked os 5 .any (fun w args => (Rows.jsonNestsSpec.pre enc prog Tryd.f5 [] false w args /\ laidMetH prog [("math/bits.deBruijn32tab", Rows.laid_math_bits_deBruijn32tab), ("math/bits.deBruijn64tab", Rows.laid_math_bits_deBruijn64tab), ("internal/strconv.uint64pow10", Rows.laid_internal_strconv_uint64pow10), ("unicode/utf8.acceptRanges", Rows.laid_unicode_utf8_acceptRanges), ("strconv.ErrRange", Rows.laid_strconv_ErrRange), ("strconv.ErrSyntax", Rows.laid_strconv_ErrSyntax), ("unicode/utf8.first", Rows.laid_unicode_utf8_first)] w) /\ sizedMet enc prog Tryd.f5 (OpenSpec.ofChange Rows.jsonNestsSpec) false w args)
  (Rows.jsonNestsSpec.post enc prog Tryd.f5 false true false false) := by
 refine returnsInHanded_of_change_and (C := Tryd.checked) (X := fun w _ => laidMetH prog [("math/bits.deBruijn32tab", Rows.laid_math_bits_deBruijn32tab), ("math/bits.deBruijn64tab", Rows.laid_math_bits_deBruijn64tab), ("internal/strconv.uint64pow10", Rows.laid_internal_strconv_uint64pow10), ("unicode/utf8.acceptRanges", Rows.laid_unicode_utf8_acceptRanges), ("strconv.ErrRange", Rows.laid_strconv_ErrRange), ("strconv.ErrSyntax", Rows.laid_strconv_ErrSyntax), ("unicode/utf8.first", Rows.laid_unicode_utf8_first)] w) (fun _ _ _ hh h => h.of_heap hh) own started (by kernel_rfl) func5
  (ChangeSpec.witness_shaped (enc := enc) (C := Tryd.checked) (os := os) (X := fun w _ => laidMetH prog [("math/bits.deBruijn32tab", Rows.laid_math_bits_deBruijn32tab), ("math/bits.deBruijn64tab", Rows.laid_math_bits_deBruijn64tab), ("internal/strconv.uint64pow10", Rows.laid_internal_strconv_uint64pow10), ("unicode/utf8.acceptRanges", Rows.laid_unicode_utf8_acceptRanges), ("strconv.ErrRange", Rows.laid_strconv_ErrRange), ("strconv.ErrSyntax", Rows.laid_strconv_ErrSyntax), ("unicode/utf8.first", Rows.laid_unicode_utf8_first)] w) false (World.laidAll prog os [("math/bits.deBruijn32tab", Rows.laid_math_bits_deBruijn32tab), ("math/bits.deBruijn64tab", Rows.laid_math_bits_deBruijn64tab), ("internal/strconv.uint64pow10", Rows.laid_internal_strconv_uint64pow10), ("unicode/utf8.acceptRanges", Rows.laid_unicode_utf8_acceptRanges), ("strconv.ErrRange", Rows.laid_strconv_ErrRange), ("strconv.ErrSyntax", Rows.laid_strconv_ErrSyntax), ("unicode/utf8.first", Rows.laid_unicode_utf8_first)]) #[.int .u8 0, .bool false] 8 (World.laidAll_os _ _ _) (World.shaped_of_ZipB (by kernel_rfl) (by kernel_rfl)) (by kernel_rfl) (by kernel_rfl) (by kernel_rfl) (laid_met os _)) ?_
 intro W base args ds gs before hval hW _ hz hL _
 exact contract H enc W base args ds gs before hval hW hz hL
theorem said : Rows.JsonNestsSaid :=
 OpenClaim.holds_of_wide 5 Tryd.f5 rfl rfl rfl rfl rfl rfl rfl ⟨rfl, rfl, rfl, rfl, rfl⟩ rfl rfl rfl rfl rfl (by kernel_rfl) func5 (by kernel_rfl)
  (of_decide_eq_true (by kernel_rfl)) (by unfold Func.isWrapper; first | (rw [if_pos (by decide +kernel)]; kernel_rfl) | (rw [if_neg (by decide +kernel)]; exact ⟨rfl, rfl⟩))
  (fun os started H enc _ => lifted os started H enc)
theorem proved : Rows.JsonNestsCardSaid :=
 Claim7.holds_tied_plain_at .later [] [.data, .data, .data, .data, .sentinel, .sentinel, .pinned] true Rows.jsonNestsCard.stood.harness true
  said (fun _ h => by cases h) (by kernel_rfl) (fun _ h => by cases h) jsonNests_row_tie rfl ⟨rfl, rfl⟩ (by kernel_rfl) rfl
  (fun f fn hf hfn => by
   obtain rfl : f = 5 := Option.some.inj ((show prog.funcNamed "scantling/scantlinglaw06.JsonNests" = some 5 by kernel_rfl).symm.trans hf) |>.symm
   obtain rfl : fn = Tryd.f5 := (Option.some.inj (func5.symm.trans hfn)).symm
   exact ⟨by kernel_rfl, fun j t ht => by
    have hm : t ∈ Tryd.f5.params.toList := by simpa using Array.mem_of_getElem? ht
    have hall : (Tryd.f5.params.toList.all fun u => !prog.wantsStandIn u) = true := by kernel_rfl
    exact (show prog.wantsStandIn t = false by simpa using List.all_eq_true.1 hall t hm)⟩)
  (by kernel_rfl)
end Go.Proofs.YtglpcedoongagaaDoor.jsonNestsL
