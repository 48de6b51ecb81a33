/-
  Part 2 of the proof: no statement of its own. No condition but those in each theorem.
-/
import Derived.Test.YtglpcedoongagaaGreatDoorQm1
import Derived.Lib.ConvBytes
import Derived.Lib.AppendStr
import Derived.Sort.LoopGhostIn
import Derived.DeepKeys3
import Derived.MapKept
set_option linter.unusedSimpArgs false
set_option linter.unusedVariables false
set_option linter.unusedSectionVars false
set_option maxRecDepth 8000
set_option maxHeartbeats 4000000
namespace Go.E
def Post (Z : Heap) (ρ : List BI) (T : Tbl) (w : World) (K : AV -> Tbl -> Eff -> Prop) : Value -> World -> Prop := fun v w' =>
 ∃ (Z' : Heap) (ρ' : List BI) (T' : Tbl) (es : Eff) (a : AV), St Z' ρ' T' w' /\ Ext Z ρ T w Z' ρ' T' w' es /\ Rel Z' ρ' a v /\ K a T' es
def AV.known : AV -> Option (List AV)
 | .p v => some (v.cells.toList.map .p)
 | .ag cs => some cs
 | .any => none
 | .tu _ => none
 | a => some [a]
def wrA (cs : List AV) (k : Nat) : List AV -> List AV
 | [v] => cs.set k v
 | vs => cs.take k ++ vs ++ cs.drop (k + vs.length)
theorem wrA_eq {cs : List AV} {k : Nat} {vs : List AV} (h : k + vs.length <= cs.length) : wrA cs k vs = cs.take k ++ vs ++ cs.drop (k + vs.length) := by
 unfold wrA
 split
 . rw [List.set_eq_take_append_cons_drop, if_pos (by simp at h; omega)]; simp
 . rfl
theorem wrA_all {cs vs : List AV} (h : vs.length = cs.length) : wrA cs 0 vs = vs := by
 rw [wrA_eq (by omega)]; simp [h]
def ones (cs : List AV) : Bool := cs.all AV.one
def lim (P : Program) (E : TypeId) (n : Nat) : Prop := n * tby P E <= 140737488355328 /\ n <= 140737488355328
def GOK (G : Nat -> AV) (Z : Heap) : Prop := ∀ g : Nat, Rel Z [] (G g) (.pointer (some ⟨g, 0, none⟩))
def CallA (P : Program) (G : Nat -> AV) (f : FuncId) (args : List AV) (T : Tbl) (K : AV -> Tbl -> Eff -> Prop) (_ : Tag K := .mk) : Prop :=
 ∀ (Z : Heap) (ρ : List BI) (w : World) (vs : List Value), GOK G Z -> St Z ρ T w -> RelL Z ρ args vs -> Ret P f vs.toArray w (Post Z ρ T w K)
def ExtA (P : Program) (G : Nat -> AV) (f : FuncId) (args : List AV) (T : Tbl) (K : AV -> Tbl -> Eff -> Prop) (_ : Tag K := .mk) : Prop :=
 ∀ (Z : Heap) (ρ : List BI) (w : World) (vs : List Value), GOK G Z -> St Z ρ T w -> RelL Z ρ args vs -> RunV P (do match <- callFunc f vs.toArray with | .value v => pure v | _ => stuck "") w (Post Z ρ T w K)
def callF (e : Bool) (P : Program) (G : Nat -> AV) (g : FuncId) (args : List AV) (T : Tbl) (K : AV -> Tbl -> Eff -> Prop) (_ : Tag K := .mk) : Prop := match e with
 | true => CallA P G g args T K
 | false => ExtA P G g args T K
def YldA (P : Program) (G : Nat -> AV) (l : Nat) (args : List AV) (T : Tbl) (K : AV -> Tbl -> Eff -> Prop) (_ : Tag K := .mk) : Prop :=
 ∀ (Z : Heap) (ρ : List BI) (w : World) (vs : List Value), GOK G Z -> St Z ρ T w -> RelL Z ρ args vs -> Yld P l vs.toArray w (Post Z ρ T w K)
def YldI (P : Program) (G : Nat -> AV) (i : Nat) (args : List AV) (T : Tbl) (K : AV -> Tbl -> Eff -> Prop) (_ : Tag K := .mk) : Prop :=
 ∀ (Z : Heap) (ρ : List BI) (w : World) (vs : List Value) (x : BI) (b : Nat), GOK G Z -> St Z ρ T w -> RelL Z ρ args vs -> ρ[i]? = some x -> x.blk = some b -> Yld P b vs.toArray w (Post Z ρ T w K)
def callA (P : Program) (G : Nat -> AV) (f : AV) (args : List AV) (T : Tbl) (K : AV -> Tbl -> Eff -> Prop) (_ : Tag K := .mk) : Prop := match f with
 | .p (.func (.func g) ⟨[]⟩ ⟨[]⟩) => callF (entered P g) P G g args T K
 | .fn g cap => callF (entered P g) P G g (args ++ cap) T K
 | .p (.func (.yield l) ⟨[]⟩ ⟨[]⟩) => YldA P G l args T K
 | .yl i => YldI P G i args T K
 | _ => False
def stoA (P : Program) (t : TypeId) (i off : Nat) (vs : List AV) (o : AObj) (T : Tbl) (K : AV -> Tbl -> Eff -> Prop) (_ : Tag K := .mk) : Prop := match o with
 | .cells E cs => (tsz P t = vs.length /\ 0 < vs.length /\ off + vs.length <= cs.length /\ ones vs = true) /\ K (.p undef) (T.set i (.cells E (wrA cs off vs))) [(i, false)]
 | .buf E sz cs => (tsz P t = vs.length /\ 0 < vs.length /\ off + vs.length <= cs.length /\ ones vs = true) /\ K (.p undef) (T.set i (.buf E sz (wrA cs off vs))) [(i, false)]
 | _ => False
def storeA (P : Program) (t : TypeId) (a x : AV) (T : Tbl) (K : AV -> Tbl -> Eff -> Prop) (_ : Tag K := .mk) : Prop := match a with
 | .ptr i off => getO x.known fun vs => getO T[i]? fun o => stoA P t i off vs o T K
 | _ => False
def appC (P : Program) (E : TypeId) (i off n : Nat) (ys : List AV) (m : Nat) (o : AObj) (T : Tbl) (K : AV -> Tbl -> Eff -> Prop) (_ : Tag K := .mk) : Prop := match o with
 | .buf E' sz cs => (E' = E /\ sz = tsz P E /\ off = 0 /\ cs.length = n * sz /\ lim P E (n + m)) /\ K (.sl i 0 (n + m)) ((T.map (AObj.wo (· == i))).set i (.buf E sz ((cs ++ ys).map (AV.wo (· == i))))) [(i, true)]
 | _ => False
def appB (P : Program) (E : TypeId) (a : AV) (ys : List AV) (m : Nat) (T : Tbl) (K : AV -> Tbl -> Eff -> Prop) (_ : Tag K := .mk) : Prop := match a with
 | .p (.slice none 0 0) => lim P E m /\ K (.sl T.length 0 m) (T ++ [.buf E (tsz P E) ys]) []
 | .sl i off n => getO T[i]? fun o => appC P E i off n ys m o T K
 | _ => False
def appA (P : Program) (d : TypeDesc) (a y : AV) (T : Tbl) (K : AV -> Tbl -> Eff -> Prop) (_ : Tag K := .mk) : Prop := match d with
 | .slice E => if tsz P E = 0 then False else getO (tzr P E) fun z => z.cells.size = tsz P E /\ srcA (tsz P E) y T fun ys m => ones ys = true /\ appB P E a ys m T K
 | _ => False
def appS (P : Program) (d e : TypeDesc) (a y : AV) (T : Tbl) (K : AV -> Tbl -> Eff -> Prop) (_ : Tag K := .mk) : Prop := match d, e with
 | .slice E, .string => (tsz P E = 1 /\ tby P E = 1 /\ tzr P E = some (.int .u8 0)) /\ isP y fun v => (match v with
   | .string x => appB P E a (x.data.toList.map fun b => .p (.int .u8 (b.toNat : Int))) x.size T K
   | _ => False)
 | _, _ => False
def fillA (sz : Nat) : List AV -> List (Nat × AV) -> Option (List AV)
 | cs, [] => some cs
 | cs, (i, a) :: r => match a.known with
   | none => none
   | some vs => if vs.length = sz /\ i * sz + vs.length <= cs.length then fillA sz (wrA cs (i * sz) vs) r else none
def fillB (sz : Nat) (cs : List AV) (i : Nat) (o : Option (List AV)) (r : List (Nat × AV)) : Option (List AV) := match o with
 | none => none
 | some vs => if vs.length = sz /\ i * sz + vs.length <= cs.length then fillA sz (wrA cs (i * sz) vs) r else none
def fillS (P : Program) (t : TypeId) : List AV -> List (Nat × AV) -> Option (List AV)
 | cs, [] => some cs
 | cs, (i, a) :: r => match tff P t i, a.known with
   | some (off, ft), some vs => if vs.length = tsz P ft /\ off + vs.length <= cs.length then fillS P t (wrA cs off vs) r else none
   | _, _ => none
def fillT (P : Program) (t : TypeId) (cs : List AV) (f : Option (Nat × TypeId)) (o : Option (List AV)) (r : List (Nat × AV)) : Option (List AV) := match f, o with
 | some (off, ft), some vs => if vs.length = tsz P ft /\ off + vs.length <= cs.length then fillS P t (wrA cs off vs) r else none
 | _, _ => none
def blsA (P : Program) (d : TypeDesc) (k : Nat) (parts : List (Nat × AV)) (T : Tbl) (K : AV -> Tbl -> Eff -> Prop) (_ : Tag K := .mk) : Prop := match d with
 | .slice e => if tsz P e = 0 then False else getO (tzr P e) fun z => (z.cells.size = tsz P e /\ k * tsz P e <= 16777216) /\ getO (fillA (tsz P e) (List.replicate k (z.cells.toList.map AV.p)).flatten parts) fun cs => K (.sl T.length 0 k) (T ++ [.buf e (tsz P e) cs]) []
 | _ => False
def tst (P : Program) (t : TypeId) : Bool := match tk P t with
 | .struct fs => fs.all fun f => tsz P f.type != 0
 | _ => false
def bldB (P : Program) (d : TypeDesc) (cs : List AV) (parts : List (Nat × AV)) (K : AV -> Prop) (_ : Tag K := .mk) : Prop := match d with
 | .array _ e => if tsz P e = 0 then False else getO (fillA (tsz P e) cs parts) fun cs => K (.ag cs)
 | _ => False
def bldC (P : Program) (t : TypeId) (b : Bool) (cs : List AV) (parts : List (Nat × AV)) (K : AV -> Prop) (_ : Tag K := .mk) : Prop := match b with
 | true => getO (fillS P t cs parts) fun cs => K (.ag cs)
 | false => bldB P (tk P t) cs parts K
def bldA (P : Program) (t : TypeId) (parts : List (Nat × AV)) (K : AV -> Prop) (_ : Tag K := .mk) : Prop := getO (tzr P t) fun z => bldC P t (tst P t) (z.cells.toList.map AV.p) parts K
def mksA (P : Program) (d : TypeDesc) (l c : AV) (T : Tbl) (K : AV -> Tbl -> Eff -> Prop) (_ : Tag K := .mk) : Prop := match d, l, c with
 | .slice e, .p (.int _ x), .p (.int _ y) => if tsz P e = 0 then False else getO (tzr P e) fun z => (0 <= x /\ x <= y /\ z.cells.size = tsz P e /\ lim P e y.toNat) /\ K (.sl T.length 0 x.toNat) (T ++ [.buf e (tsz P e) (List.replicate x.toNat (z.cells.toList.map AV.p)).flatten]) []
 | _, _, _ => False
def cpyB (P : Program) (i off n : Nat) (ys : List AV) (m : Nat) (o : AObj) (T : Tbl) (K : AV -> Tbl -> Eff -> Prop) (_ : Tag K := .mk) : Prop := match o with
 | .cells E cs => off + (ys.take (min m n)).length <= cs.length /\ K (.p (.int .i64 (min m n : Nat))) (T.set i (.cells E (wrA cs off (ys.take (min m n))))) [(i, false)]
 | .buf E sz cs => off + (ys.take (min m n)).length <= cs.length /\ K (.p (.int .i64 (min m n : Nat))) (T.set i (.buf E sz (wrA cs off (ys.take (min m n))))) [(i, false)]
 | _ => False
def cpyE (P : Program) (d : TypeDesc) (a y : AV) (T : Tbl) (K : AV -> Tbl -> Eff -> Prop) (_ : Tag K := .mk) : Prop := match d, a with
 | .slice E, .sl i off n => tsz P E = 1 /\ srcA 1 y T fun ys m => (ones ys = true /\ ys.length = m /\ 0 < m /\ 0 < n) /\ getO T[i]? fun o => cpyB P i off n ys m o T K
 | _, _ => False
def cpyA (P : Program) (ts : List TypeId) (a y : AV) (T : Tbl) (K : AV -> Tbl -> Eff -> Prop) (_ : Tag K := .mk) : Prop := match ts with
 | [t, _] => cpyE P (tk P t) a y T K
 | _ => False
open Classical in
noncomputable def mset (es : List (Value × AV)) (k : Value) (v : AV) : List (Value × AV) := match mfind es k with
 | some _ => es.map fun e => if e.1 = k then (k, v) else e
 | none => es ++ [(k, v)]
open Classical in
noncomputable def mdel (es : List (Value × AV)) (k : Value) : List (Value × AV) := es.filter fun e => !decide (e.1 = k)
def mupC (P : Program) (kt : TypeId) (i : Nat) (k : Value) (x : AV) (o : AObj) (T : Tbl) (K : AV -> Tbl -> Eff -> Prop) (_ : Tag K := .mk) : Prop := match o with
 | .map es => mapKO P kt es k /\ K (.p undef) (T.set i (.map (mset es k x))) [(i, false)]
 | _ => False
def mupB (P : Program) (kt : TypeId) (a : AV) (k : Value) (x : AV) (T : Tbl) (K : AV -> Tbl -> Eff -> Prop) (_ : Tag K := .mk) : Prop := match a with
 | .mp i => getO T[i]? fun o => mupC P kt i k x o T K
 | _ => False
def mupA (P : Program) (d : TypeDesc) (a k x : AV) (T : Tbl) (K : AV -> Tbl -> Eff -> Prop) (_ : Tag K := .mk) : Prop := match d with
 | .map kt _ => getO k.flat fun k => mupB P kt a k x T K
 | _ => False
def mdlC (P : Program) (kt : TypeId) (i : Nat) (k : Value) (o : AObj) (T : Tbl) (K : AV -> Tbl -> Eff -> Prop) (_ : Tag K := .mk) : Prop := match o with
 | .map es => mapKO P kt es k /\ K (.p (.tuple #[])) (T.set i (.map (mdel es k))) [(i, false)]
 | _ => False
def mdlB (P : Program) (kt : TypeId) (a : AV) (k : Value) (T : Tbl) (K : AV -> Tbl -> Eff -> Prop) (_ : Tag K := .mk) : Prop := match a with
 | .mp i => getO T[i]? fun o => mdlC P kt i k o T K
 | _ => False
def mdlA (P : Program) (d : TypeDesc) (a k : AV) (T : Tbl) (K : AV -> Tbl -> Eff -> Prop) (_ : Tag K := .mk) : Prop := match d with
 | .map kt _ => getO k.flat fun k => mdlB P kt a k T K
 | _ => False
def mkmA (P : Program) (d : TypeDesc) (r : Option AV) (T : Tbl) (K : AV -> Tbl -> Eff -> Prop) (_ : Tag K := .mk) : Prop := match r, d with
 | none, _ => K (.mp T.length) (T ++ [.map []]) []
 | some (.p (.int _ _)), .map _ _ => K (.mp T.length) (T ++ [.map []]) []
 | _, _ => False
def MF (es : List (Value × AV)) (ms : Array MapEntry) (c : Nat) : Prop := es.map (·.1) = ms.toList.map (·.key) /\ (ms.toList.map (·.born)).Nodup /\ (∀ e ∈ ms.toList, e.born < c) /\ (ms.toList.map (·.key)).Nodup
def MB (es : List (Value × AV)) (ms : Array MapEntry) (k : Value) (b : Nat) : Prop := ∃ (j : Nat) (e : MapEntry) (a : AV), ms[j]? = some e /\ e.born = b /\ es[j]? = some (k, a)
def menC (P : Program) (kt : TypeId) (i : Nat) (k z : Value) (o : AObj) (T : Tbl) (K : AV -> Tbl -> Eff -> Prop) (_ : Tag K := .mk) : Prop := match o with
 | .map es => mapKO P kt es k /\ ∀ (ms : Array MapEntry) (c b : Nat), MF (mset es k ((mfind es k).getD (.p z))) ms c -> MB (mset es k ((mfind es k).getD (.p z))) ms k b ->
  K (.tu [(mfind es k).getD (.p z), .p (.int .i64 (b : Int))]) (T.set i (.rcd (.map ms c) ((mset es k ((mfind es k).getD (.p z))).map (·.2)) (ms.toList.map (·.val)))) [(i, false)]
 | _ => False
def menB (P : Program) (kt : TypeId) (a : AV) (k z : Value) (T : Tbl) (K : AV -> Tbl -> Eff -> Prop) (_ : Tag K := .mk) : Prop := match a with
 | .mp i => getO T[i]? fun o => menC P kt i k z o T K
 | _ => False
def menA (P : Program) (d : TypeDesc) (a k : AV) (T : Tbl) (K : AV -> Tbl -> Eff -> Prop) (_ : Tag K := .mk) : Prop := match d with
 | .map kt el => getO k.flat fun k => getO (tzr P el) fun z => menB P kt a k z T K
 | _ => False
def estC (i : Nat) (b : Int) (x : AV) (o : AObj) (T : Tbl) (K : AV -> Tbl -> Eff -> Prop) (_ : Tag K := .mk) : Prop := match o with
 | .rcd (.map ms c) cs vs => ∃ (es : List (Value × AV)) (k : Value) (s : Nat), b = (s : Int) /\ MF es ms c /\ MB es ms k s /\ es.map (·.2) = cs /\ vs = ms.toList.map (·.val) /\ K (.p undef) (T.set i (.map (mset es k x))) [(i, false)]
 | _ => False
def estA (a s x : AV) (T : Tbl) (K : AV -> Tbl -> Eff -> Prop) (_ : Tag K := .mk) : Prop := match a, s with
 | .mp i, .p (.int _ b) => getO T[i]? fun o => estC i b x o T K
 | _, _ => False
def allP : List AV -> Bool
 | [] => true
 | .p _ :: r => allP r
 | _ => false
theorem allP_clean : ∀ {cs : List AV}, allP cs = true -> ∀ a ∈ cs, a.Clean
 | .p v :: r, h, a, ha => by
   rcases List.mem_cons.1 ha with rfl | ha
   . exact .p _
   . exact allP_clean (cs := r) h a ha
def mkbA (j off n : Nat) (o : Option AObj) (T : Tbl) (K : AV -> Tbl -> Eff -> Prop) (_ : Tag K := .mk) : Prop := match o with
 | some (.buf E sz cs) => (allP cs = true /\ cs ≠ [] /\ (0 < n ∨ off = 0)) /\ K ((AV.sl j off n).pub j cs) ((T.map (AObj.pub j cs)).set j .gone) [(j, false)]
 | _ => False
def cvoA (P : Program) (d e : TypeDesc) (s t : TypeId) (a : AV) (T : Tbl) (K : AV -> Tbl -> Eff -> Prop) (_ : Tag K := .mk) : Prop := match d, e with
 | .string, .slice el => tk P el = .int .u8 /\ isP a fun v => (match v with
   | .string x => K (.vs (x.data.toList.map fun b => .p (.int .u8 (b.toNat : Int))) x.size) T []
   | _ => False)
 | .slice el, .slice el' => (match a with
   | .sl j off n => (s = t /\ tk P el' = .int .u8) /\ mkbA j off n T[j]? T K
   | a => cnvA P (.slice el) (.slice el') s t a T fun a => K a T [])
 | d, e => cnvA P d e s t a T fun a => K a T []
def opA (P : Program) (G : Nat -> AV) (ρ : Operand -> AV) (o : Op) (ty : TypeId) (T : Tbl) (K : AV -> Tbl -> Eff -> Prop) (_ : Tag K := .mk) : Prop :=
 match o with
 | .alloc e => getO (tzr P e) fun z => K (.ptr T.length 0) (T ++ [.cells e (z.cells.toList.map .p)]) []
 | .box e x => getO (ρ x).known fun cs => K (.ptr T.length 0) (T ++ [.cells e cs]) []
 | .store t a x => storeA P t (ρ a) (ρ x) T K
 | .call ⟨.value f, args, _⟩ => callA P G (ρ f) (args.toList.map ρ) T K
 | .call ⟨.builtin .append, args, ts⟩ => (match args.toList, ts.toList with
   | [x, y], [t, t'] => if t = t' then appA P (tk P t) (ρ x) (ρ y) T K else appS P (tk P t) (tk P t') (ρ x) (ρ y) T K
   | _, _ => False)
 | .buildSlice e k ps => blsA P (tk P e) k (ps.toList.map fun p => (p.1, ρ p.2)) T K
 | .build e ps => bldA P e (ps.toList.map fun p => (p.1, ρ p.2)) fun a => K a T []
 | .makeSlice t l c => mksA P (tk P t) (ρ l) (ρ c) T K
 | .call ⟨.builtin .copy, args, ts⟩ => (match args.toList with
   | [x, y] => cpyA P ts.toList (ρ x) (ρ y) T K
   | _ => False)
 | .convert s t x => cvoA P (tk P s) (tk P t) s t (ρ x) T K
 | .makeMap t r => mkmA P (tk P t) (r.map ρ) T K
 | .mapUpdate t m k x => mupA P (tk P t) (ρ m) (ρ k) (ρ x) T K
 | .insert t m k x => mupA P (tk P t) (ρ m) (ρ k) (ρ x) T K
 | .mapEntry t m k => menA P (tk P t) (ρ m) (ρ k) T K
 | .entryStore _ m s x => estA (ρ m) (ρ s) (ρ x) T K
 | .call ⟨.builtin .delete, args, ts⟩ => (match args.toList, ts.toList with
   | [x, y], t :: _ => mdlA P (tk P t) (ρ x) (ρ y) T K
   | _, _ => False)
 | o => rdA P ρ o ty T fun a => K a T []
def rdF (P : Program) (ρ : Operand -> AV) (o : Op) (ty : TypeId) (T : Tbl) (K : AV -> Prop) (_ : Tag K := .mk) : Prop := match o with
 | .build e ps => bldA P e (ps.toList.map fun p => (p.1, ρ p.2)) K
 | o => rdA P ρ o ty T K
section
variable {P : Program} {Z Z' : Heap} {ρ ρ' : List BI} {T : Tbl} {w w' : World} {a b : AV} {u v : Value} {K : AV -> Tbl -> Eff -> Prop} {cs : List AV}
theorem Rel.known (h : Rel Z ρ a v) (hk : a.known = some cs) : RelL Z ρ cs v.cells.toList := by
 have one : ∀ {a : AV} {v : Value}, Rel Z ρ a v -> v.cells = #[v] -> RelL Z ρ [a] v.cells.toList := fun h e => by rw [e]; exact .cons h .nil
 cases h <;> simp only [AV.known] at hk <;> first
  | (cases hk; exact .ps _)
  | (cases hk; exact one (by first | exact .vs0 ‹_› ‹_› | exact .vs ‹_› ‹_› ‹_› ‹_› | exact .vp ‹_› ‹_› ‹_› | (constructor <;> assumption)) rfl)
  | (cases hk; done)
  | skip
 . cases hk; exact RelL.of_all ‹_› ‹_›
theorem Rel.one (h : Rel Z ρ a v) (hk : a.one = true) : v.oneCell' = true := by
 cases h <;> first | rfl | exact hk | cases hk
theorem RelL.ones {vs : List Value} (h : RelL Z ρ cs vs) (hk : ones cs = true) : ∀ u ∈ vs, u.oneCell' = true := by
 intro u hu
 obtain ⟨k, hk1, rfl⟩ := List.mem_iff_getElem.1 hu
 have h2 : k < cs.length := by rw [h.1]; exact hk1
 exact (h.2 k cs[k] vs[k] (by simp [h2]) (by simp [hk1])).one (List.all_eq_true.1 hk _ (List.getElem_mem _))
theorem alloc_of (hs : St Z ρ T w) (o : Obj) : Z.ofc (w.alloc o) := by
 refine ⟨fun b ob hb => ?_, hs.of.2⟩
 rw [heap_alloc, if_neg (by have := hs.lt hb; omega)]; exact hs.of.1 _ _ hb
theorem alloc_old (o : Obj) : ∀ b, b < w.heap.size -> (w.alloc o).heap[b]? = w.heap[b]? := fun b hb => by rw [heap_alloc, if_neg (by omega)]
theorem St.alloc (hs : St Z ρ T w) (E : TypeId) {vs : List Value} (hv : RelL Z ρ cs vs) :
 St Z (ρ ++ [⟨some w.heap.size, 0, false⟩]) (T ++ [.cells E cs]) (w.alloc (.cells vs.toArray E)) /\ Ext Z ρ T w Z (ρ ++ [⟨some w.heap.size, 0, false⟩]) (T ++ [.cells E cs]) (w.alloc (.cells vs.toArray E)) [] := by
 refine hs.push _ _ (alloc_of hs _) (alloc_old _) ⟨rfl, _, vs, rfl, by rw [heap_alloc, if_pos rfl], hv.mono (Heap.le_refl _) (snoc_mono _ _)⟩ fun b hb => ?_
 cases hb; exact Nat.le_refl _
theorem ptr_new (hs : St Z ρ T w) (x : BI) {b : Nat} (hb : x.blk = some b) (off : Nat) : Rel Z (ρ ++ [x]) (.ptr T.length off) (.pointer (some ⟨b, off, none⟩)) := .ptr (x := x) (by rw [<- hs.len]; simp) hb
theorem sl_new (hs : St Z ρ T w) (x : BI) (n : Nat) (hn : n <= x.cap) : Rel Z (ρ ++ [x]) (.sl T.length 0 n) (.slice (x.blk.map fun b => ⟨b, 0, none⟩) n x.cap) := .sl (x := x) (by rw [<- hs.len]; simp) (fun _ => rfl) hn fun _ _ => rfl
theorem wr_rel {vs : List Value} {ds : List AV} {us : List Value} (h : RelL Z ρ cs vs) (h' : RelL Z ρ ds us) (k : Nat) (hk : k + ds.length <= cs.length) : RelL Z ρ (wrA cs k ds) (wr vs k us) := by
 rw [wrA_eq hk]
 unfold wr
 rw [<- h'.1]
 exact ((h.take k).append h').append (h.drop _)
theorem wr_append {A B us : List Value} {off : Nat} (h : off + us.length <= A.length) : wr (A ++ B) off us = wr A off us ++ B := by
 unfold wr
 rw [List.take_append_of_le_length (by omega), List.drop_append_of_le_length h]
 simp
theorem wr_length {A us : List Value} {off : Nat} (h : off + us.length <= A.length) : (wr A off us).length = A.length := by simp [wr]; omega
theorem wr_take {l us : List Value} {off m : Nat} (h : off + us.length <= m) (hm : m <= l.length) : wr (l.take m) off us = (wr l off us).take m := by
 have h1 : (l.take m).length = m := by simp; omega
 have e : wr l off us = wr (l.take m) off us ++ l.drop m := by
  have := wr_append (A := l.take m) (B := l.drop m) (us := us) (off := off) (by omega)
  rwa [List.take_append_drop] at this
 exact ((congrArg (List.take m) e).trans (by rw [List.take_append_of_le_length (by rw [wr_length (by omega)]; omega), List.take_of_length_le (by rw [wr_length (by omega)]; omega)])).symm
theorem wrA_length {A us : List AV} {off : Nat} (h : off + us.length <= A.length) : (wrA A off us).length = A.length := by rw [wrA_eq h]; simp; omega
theorem storeA_sound {t : TypeId} (hs : St Z ρ T w) (hx : Rel Z ρ a u) (hy : Rel Z ρ b v) (h : storeA P t a b T K) : storeV t u v fun s => RunV P s w (Post Z ρ T w K) := by
 unfold storeA at h
 split at h
 . rename_i i off
   obtain ⟨ds, hd, h⟩ := getO_elim h
   obtain ⟨o, hT, h⟩ := getO_elim h
   have hus := hy.known hd
   cases hx with
   | @ptr _ _ _ b x hx hb =>
   have run : ∀ (E : TypeId) (vs : List Value), w.heap[b]? = some (.cells vs.toArray E (0, 0)) -> tsz P t = ds.length -> 0 < ds.length -> off + ds.length <= vs.length -> ones ds = true ->
    ∃ w', (do Instr.storeAt t (.pointer (some ⟨b, off, none⟩)) v; pure undef : Sem Value).run P w = .ok undef w' /\ w'.heap[b]? = some (.cells (wr vs off v.cells.toList).toArray E (0, 0)) /\ (∀ k, k ≠ b -> w'.heap[k]? = w.heap[k]?) /\ w'.os = w.os /\ w'.output = w.output := by
    intro E vs hw h1 h2 h3 h4
    have hl : ds.length = v.cells.toList.length := hus.1
    obtain ⟨inf, hi, hsz, _⟩ := info_of_tsz (P := P) (t := t) (by omega)
    have hst := run_storeCells_at P b off E v.cells.toList 0 vs.toArray w hw (by simp at hl ⊢; omega) (hus.ones h4)
    refine ⟨_, ?_, setRow_heap w b vs.toArray _ E _ hw, fun k' hk' => setRow_other w b k' _ hk', rfl, rfl⟩
    have h5 : ¬ v.cells.size ≠ inf.size := by simp at hl; omega
    simp only [Instr.storeAt, Instr.sureAddr, storeVar, Sem.run_bind, Sem.run_pure, Result.andThen_ok, sizeOf, typeInfo, run_program, hi, h5, if_false]
    simp only [Nat.add_zero] at hst
    rw [hst]
    simp [wr]
   have fin : ∀ (E : TypeId) (vs : List Value) (o' : AObj), o.live = true -> o'.live = true -> w.heap[b]? = some (.cells vs.toArray E (0, 0)) -> tsz P t = ds.length -> 0 < ds.length -> off + ds.length <= vs.length -> ones ds = true -> K (.p undef) (T.set i o') [(i, false)] ->
    (∀ w', w'.heap[b]? = some (.cells (wr vs off v.cells.toList).toArray E (0, 0)) -> ObjRel Z ρ w' x o') -> storeV t (.pointer (some ⟨b, off, none⟩)) v fun s => RunV P s w (Post Z ρ T w K) := by
    intro E vs o' hl hl' hw h1 h2 h3 h4 hk hr
    obtain ⟨w', g1, g2, g3, g4⟩ := run E vs hw h1 h2 h3 h4
    obtain ⟨k1, k2⟩ := hs.write hT hx hl o' hl' (w' := w') (fun c hc => g3 c fun e => hc (by rw [e]; exact hb)) g4 (hr w' g2)
    exact ⟨_, w', g1, Z, ρ, _, _, _, k1, k2, .p _, hk⟩
   have ho := hs.obj i o x hT hx
   cases o with
   | cells E cs =>
     obtain ⟨⟨h1, h2, h3, h4⟩, hk⟩ := h
     obtain ⟨h0, b', vs, e1, e2, e3⟩ := ho
     rw [hb] at e1; cases e1
     refine fin E vs _ rfl rfl e2 h1 h2 (by rw [<- e3.1]; exact h3) h4 hk fun w' hw' => ⟨h0, b, _, hb, hw', wr_rel e3 hus off h3⟩
   | buf E sz ls =>
     obtain ⟨⟨h1, h2, h3, h4⟩, hk⟩ := h
     obtain ⟨h0, n, e1, e2, ⟨e3, rfl, e5⟩ | ⟨b', cur, e3, e4, e5, e6, e7⟩⟩ := ho
     . simp only [List.length_nil] at h3; omega
     rw [hb] at e3; cases e3
     have hle : n * sz <= cur.toList.length := by rw [Array.length_toList, e6]; exact Nat.mul_le_mul_right _ e2
     have hus1 : v.cells.toList.length = ds.length := hus.1.symm
     have e9 : off + ds.length <= cur.toList.length := by omega
     refine fin E cur.toList _ rfl rfl (by simpa using e4) h1 h2 e9 h4 hk fun w' hw' => ⟨h0, n, by rw [wrA_length h3]; exact e1, e2, .inr ⟨b, (wr cur.toList off v.cells.toList).toArray, hb, hw', e5, ?_, ?_⟩⟩
     . rw [List.size_toArray, wr_length (by omega), Array.length_toList, e6]
     . have := wr_rel e7 hus off h3
       rwa [wr_take (by omega) hle] at this
   | _ => exact h.elim
 . exact h.elim
theorem srcA_elim {sz : Nat} {K : List AV -> Nat -> Prop} (h : srcA sz a T K) (hs : St Z ρ T w) (hr : Rel Z ρ a v) : ∃ (e : Option Addr) (m d : Nat) (ys : List AV) (us : List Value), v = .slice e m d /\ RelL Z ρ ys us /\ ys.length = m * sz /\ Rd w e us /\ K ys m := by
 unfold srcA at h
 split at h
 . rename_i cs n
   obtain ⟨h1, h⟩ := h
   cases hr with
   | @vs0 _ _ _ c ad h0 hc =>
     have h2 : cs = [] := by
      rcases h0 with h0 | h0
      . exact h0
      . subst h0; exact List.eq_nil_of_length_eq_zero (by simpa using h1)
     subst h2
     exact ⟨_, _, _, _, [], rfl, .nil, h1, .inl rfl, h⟩
   | vs hm hb hc hr =>
     obtain ⟨us, h2, h3⟩ := row_rd (ρ := ρ) hb hc hr
     exact ⟨_, _, _, _, us, rfl, h2, h1, h3 w hs.of, h⟩
 . rename_i j off n
   obtain ⟨o, cs, h1, h2, h3, h⟩ := csA_elim h
   cases hr with
   | @sl _ _ _ _ c x ad hx ha hc h0 =>
     obtain ⟨vs, g1, g2, g3⟩ := hs.cells h1 hx h2
     refine ⟨_, _, _, _, (vs.drop off).take (n * sz), rfl, (g1.drop off).take _, by simp; omega, ?_, h⟩
     by_cases hn : n = 0
     . subst hn; exact .inl (by simp)
     . rw [ha (.inl (by omega))]
       have := ((g3 w (agr_self hs)).drop off).take (n * sz)
       have e : sh (x.blk.map fun b => (⟨b, 0, none⟩ : Addr)) off = x.blk.map fun b => (⟨b, off, none⟩ : Addr) := by cases x.blk <;> simp [sh, add_plain]
       rwa [e] at this
 . have := hr.p_inv; subst this
   exact ⟨_, _, _, [], [], rfl, .nil, by simp, .inl rfl, h⟩
 . exact h.elim
def frameF (Z0 : Heap) : Fact := ⟨fun Z => Heap.le Z0 Z, fun _ _ h h' => Heap.le_trans h' h⟩
def without (w : World) (c : Option Nat) : Heap := ⟨fun b => if c = some b then none else w.heap[b]?, w.os, w.output, fun _ => none⟩
theorem ctx_one {r : Res} {ch : Chunk} (c : Option Nat) (hr : r ch) (hch : ch.map (·.1) = c.toList) (hw : ∀ p ∈ ch, w.heap[p.1]? = some p.2) : Ctx w [r] [frameF (without w c)] := by
 refine ⟨without w c, [ch], ⟨fun b o hb => ?_, rfl, rfl⟩, ⟨hr, trivial⟩, fun p hp => ?_, ?_, fun φ hφ => ?_⟩
 . simp only [without] at hb
   split at hb
   . cases hb
   . exact hb
 . simp at hp
   refine ⟨hw p hp, ?_⟩
   have : p.1 ∈ ch.map (·.1) := List.mem_map_of_mem hp
   rw [hch] at this
   simp only [without]
   rw [if_pos (by simpa using this)]
 . simp only [List.flatten_cons, List.flatten_nil, List.append_nil, hch]
   cases c <;> simp
 . simp only [List.mem_singleton] at hφ
   subst hφ
   exact Heap.le_refl _
theorem ctx_one_out {r : Res} {c : Option Nat} (h : Ctx w' [r] [frameF (without w c)]) : ∃ ch, r ch /\ (∀ p ∈ ch, w'.heap[p.1]? = some p.2) /\ (∀ p ∈ ch, c = some p.1 ∨ w.heap.size <= p.1) /\ (∀ b, b < w.heap.size -> c ≠ some b -> w'.heap[b]? = w.heap[b]?) /\ w'.os = w.os /\ w'.output = w.output := by
 obtain ⟨Z, cs, h1, h2, h3, h4, h5⟩ := h
 obtain ⟨ch, cs', rfl, hr, h2'⟩ := h2.cons_inv
 have hf := h5 _ (List.mem_cons_self ..)
 refine ⟨ch, hr, fun p hp => (h3 p (by simp [hp])).1, fun p hp => ?_, fun b hb hc => ?_, h1.2.1.trans hf.2.1, h1.2.2.trans hf.2.2.1⟩
 . by_cases hc : c = some p.1
   . exact .inl hc
   . refine .inr (Nat.le_of_not_lt fun hlt => ?_)
     have e : (without w c) p.1 = some w.heap[p.1] := by simp [without, hc, hlt]
     have := hf.1 _ _ e
     rw [(h3 p (by simp [hp])).2] at this
     cases this
 . have e : (without w c) b = some w.heap[b] := by simp [without, hc, hb]
   rw [h1.1 _ _ (hf.1 _ _ e)]; simp [hb]
theorem run_append_s {t u ty T : TypeId} {O : List Res} {L : List Fact} {a : Option Addr} {n c : Nat} {xs : List Value} {s : ByteArray}
 (h : Ctx w (buf T 1 a n c xs :: O) L) (ht : tk P t = .slice T) (hu : tk P u = .string) (hs : tsz P T = 1) (hz : tzr P T = some (.int .u8 0)) (hb1 : tby P T = 1)
 (hb : (n + s.size) * tby P T <= 140737488355328) (hm : n + s.size <= maxLen) :
 ∃ a' c' w', (Builtin.append_ #[t, u] ty #[.slice a n c, .string s]).run P w = .ok (.slice a' (n + s.size) c') w' /\ Ctx w' (buf T 1 a' (n + s.size) c' (xs ++ Lib.strCells s) :: O) L := by
 have hp : ∃ ch, buf T 1 a n c xs ch /\ (∀ p ∈ ch, w.heap[p.1]? = some p.2) := by
  obtain ⟨Z, cs, g1, g2, g3, g4, g5⟩ := h
  obtain ⟨ch, cs', rfl, hr, _⟩ := g2.cons_inv
  exact ⟨ch, hr, fun p hp => (g3 p (by simp only [List.flatten_cons, List.mem_append]; exact .inl hp)).1⟩
 obtain ⟨ch, hbuf, hch⟩ := hp
 have htu : P.underlying t = some (.slice T) := by rw [<- ht]; exact underlying_some (by rw [ht]; rfl)
 have huu : P.underlying u = some .string := by rw [<- hu]; exact underlying_some (by rw [hu]; rfl)
 obtain ⟨i, hi, hsz, hby, hzr⟩ := info_of_tsz (P := P) (t := T) (by omega)
 have hlS := Lib.strCells_length s
 by_cases hm0 : s.size = 0
 . have hys : Lib.strCells s = [] := List.eq_nil_of_length_eq_zero (by rw [hlS, hm0])
   rw [hys]
   have hnc : n <= c := by
    obtain ⟨_, ⟨rfl, rfl, rfl, rfl⟩ | ⟨g, cur, rfl, rfl, g1, _⟩⟩ := hbuf
    . exact Nat.le_refl _
    . exact g1
   rw [hm0]
   refine ⟨a, c, w, ?_, by simpa using h⟩
   have hf := Lib.run_firstCells_string (P := P) w 1 s
   rw [hm0, hys] at hf
   cases a with
   | none => simp [Builtin.append_, run_underlying htu, run_underlying huu, sizeOf, typeInfo, hi, hsz, hs, Builtin.lenOf, hm0, hnc, hf]
   | some a => simp [Builtin.append_, run_underlying htu, run_underlying huu, sizeOf, typeInfo, hi, hsz, hs, Builtin.lenOf, hm0, hnc, hf, storeCells]
 . have hown : w.ownsRow 0 T 1 (.slice a n c) n xs := by
    obtain ⟨hl', ⟨rfl, rfl, rfl, rfl⟩ | ⟨g, cur, rfl, rfl, g1, g2, g3, g4⟩⟩ := hbuf
    . exact ⟨hl', .inl ⟨rfl, rfl⟩⟩
    . exact ⟨hl', .inr ⟨g, c, cur, rfl, Nat.zero_le _, hch (g, _) (by simp), g1, g2, g3, g4⟩⟩
   have hb' : n + s.size <= 140737488355328 := by rw [hb1, Nat.mul_one] at hb; exact hb
   obtain ⟨v', w', hrun, hown', hgr, hnil⟩ := Lib.run_append_own_string (P := P) w 0 t u ty T i htu huu hi (by rw [hzr, hz]) (by rw [hsz, hs]) (by rw [hby, hb1]) (.slice a n c) n xs hown s hm hb' (Nat.zero_le _)
   have hv : ∃ g cap cur, v' = .slice (some ⟨g, 0, none⟩) (n + s.size) cap /\ w'.heap[g]? = some (.cells cur T (0, 0)) /\ n + s.size <= cap /\ cap <= maxLen /\ cur.size = cap * 1 /\ cur.toList.take ((n + s.size) * 1) = xs ++ Lib.strCells s := by
    rcases hown'.2 with ⟨e1, _⟩ | ⟨g, cap, cur, e1, _, e2, e3, e4, e5, e6⟩
    . exact absurd (hnil.1 e1).2 hm0
    . exact ⟨g, cap, cur, e1, e2, e3, e4, e5, e6⟩
   obtain ⟨g', cap, cur', rfl, e2, e3, e4, e5, e6⟩ := hv
   refine ⟨some ⟨g', 0, none⟩, cap, w', hrun, ?_⟩
   have hblk : a = some ⟨g', 0, none⟩ ∨ w.heap.size <= g' := by
    by_cases hroom : n + s.size <= c /\ a.isSome = true
    . obtain ⟨_, ⟨rfl, rfl, rfl, rfl⟩ | ⟨g, cur, rfl, rfl, g1, g2, g3, g4⟩⟩ := hbuf
      . simp at hroom
      . have hfit : n + s.size <= cur.size := by rw [g3, Nat.mul_one]; exact hroom.1
        have := Lib.run_append_room_string (P := P) w t u ty T i htu huu hi (by rw [hsz, hs]) g n c cur (hch (g, _) (by simp)) s hroom.1 hfit
        rw [this] at hrun
        cases hrun
        exact .inl rfl
    . obtain ⟨hl', ⟨rfl, rfl, rfl, rfl⟩ | ⟨g, cur, rfl, rfl, g1, g2, g3, g4⟩⟩ := hbuf
      . have := run_append_nil_string (P := P) w t u ty T i (.int .u8 0) htu huu hi (by rw [hzr, hz]) s (by omega) (by simp only [maxLen] at hm; omega) (by rw [hby]; exact Nat.le_trans (by simpa using hb) (by decide))
        simp only [Nat.zero_add] at hrun
        rw [this] at hrun
        cases hrun
        exact .inr (Nat.le_refl _)
      . have hroom' : ¬ n + s.size <= c := by simpa using hroom
        have := Lib.run_append_grow_string (P := P) w t u ty T i (.int .u8 0) htu huu hi (by rw [hzr, hz]) ⟨g, 0, none⟩ n c xs (by rw [hl', hsz, hs]) (hown.cells (g := g) rfl) s (by omega) (by simp only [maxLen] at hm; omega) (by rw [hby]; exact growslice_fits (by omega) hb)
        rw [this] at hrun
        cases hrun
        exact .inr (Nat.le_refl _)
   refine grownBy_turn h _ hgr fun c1 hc1 hp1 => ?_
   obtain ⟨hl', ⟨rfl, rfl, rfl, rfl⟩ | ⟨g, cur, rfl, rfl, g1, g2, g3, g4⟩⟩ := hc1
   . refine ⟨fun k hk => by simp [Value.ownBlock] at hk, [(g', .cells cur' T (0, 0))], ⟨by rw [List.length_append, hl', hlS, Nat.mul_one, Nat.mul_one], .inr ⟨g', cur', rfl, rfl, e3, e4, e5, e6⟩⟩, by simpa using e2, by simp, fun b hb' => ?_⟩
     simp at hb'
     subst hb'
     exact .inr (hblk.resolve_left (by simp))
   . refine ⟨fun k hk => by simp [Value.ownBlock] at hk; simp [hk], [(g', .cells cur' T (0, 0))], ⟨by rw [List.length_append, hl', hlS, Nat.mul_one, Nat.mul_one], .inr ⟨g', cur', rfl, rfl, e3, e4, e5, e6⟩⟩, by simpa using e2, by simp, fun b hb' => ?_⟩
     simp at hb'
     subst hb'
     rcases hblk with hblk | hblk
     . cases hblk; exact .inl (by simp)
     . exact .inr hblk
theorem run_app {t t' ty E : TypeId} {sz n m : Nat} {x : BI} {us : List Value} {y : Value} (hbuf : ObjRel Z ρ w x (.buf E sz cs)) (h0 : 0 < sz)
 (hcs : cs.length = n * sz) (hl : us.length = m * sz) (hlim : lim P E (n + m))
 (hA : ∀ (a : Option Addr) (c : Nat) (vs : List Value) (F : List Fact), Ctx w [buf E sz a n c vs] F -> ∃ a' c' w', (Builtin.append_ #[t, t'] ty #[.slice a n c, y]).run P w = .ok (.slice a' (n + m) c') w' /\ Ctx w' [buf E sz a' (n + m) c' (vs ++ us)] F) :
 ∃ (x' : BI) (vs : List Value) (w' : World), (Builtin.append_ #[t, t'] ty #[.slice (x.blk.map fun b => ⟨b, 0, none⟩) n x.cap, y]).run P w = .ok (.slice (x'.blk.map fun b => ⟨b, 0, none⟩) (n + m) x'.cap) w' /\
  RelL Z ρ cs vs /\ (∀ (Z' : Heap) (ρ' : List BI) (ds : List AV), RelL Z' ρ' ds (vs ++ us) -> ds.length = (n + m) * sz -> ObjRel Z' ρ' w' x' (.buf E sz ds)) /\ (∀ b, x'.blk = some b -> x.blk = some b ∨ w.heap.size <= b) /\ n + m <= x'.cap /\
  (∀ b, b < w.heap.size -> x.blk ≠ some b -> w'.heap[b]? = w.heap[b]?) /\ w'.os = w.os /\ w'.output = w.output := by
 obtain ⟨h00, n', e1, e2, e3⟩ := hbuf
 have hn : n' = n := Nat.eq_of_mul_eq_mul_right h0 (by rw [<- e1, hcs])
 subst hn
 have hctx : ∃ vs, RelL Z ρ cs vs /\ Ctx w [buf E sz (x.blk.map fun b => ⟨b, 0, none⟩) n' x.cap vs] [frameF (without w x.blk)] := by
  rcases e3 with ⟨g1, rfl, g3⟩ | ⟨b, cur, g1, g2, g3, g4, g5⟩
  . have hn0 : n' = 0 := by rw [g3] at e2; omega
    subst hn0
    refine ⟨[], .nil, ctx_one (ch := []) _ ⟨by simp, .inl ⟨by rw [g1]; rfl, rfl, g3, rfl⟩⟩ (by rw [g1]; rfl) (by simp)⟩
  . refine ⟨_, g5, ctx_one (ch := [(b, .cells cur E (0, 0))]) _ ⟨by rw [<- g5.1, e1], .inr ⟨b, cur, by rw [g1]; rfl, rfl, e2, g3, g4, rfl⟩⟩ (by rw [g1]; rfl) (by simpa using g2)⟩
 obtain ⟨vs, hvs, hctx⟩ := hctx
 obtain ⟨a', c', w', hrun, hc'⟩ := hA _ _ _ _ hctx
 obtain ⟨ch, hch, k1, k2, k3, k4⟩ := ctx_one_out hc'
 obtain ⟨q1, ⟨rfl, q2, rfl, rfl⟩ | ⟨g, cur, rfl, rfl, q2, q3, q4, q5⟩⟩ := hch
 . refine ⟨⟨none, 0, true⟩, vs, w', hrun, hvs, fun Z' ρ' ds hds hdl => ⟨⟨rfl, h0⟩, n' + m, hdl, by simp only; omega, .inl ⟨rfl, ?_, rfl⟩⟩, by simp, by simp only; omega, k3, k4⟩
   exact List.eq_nil_of_length_eq_zero (by rw [hdl, q2]; simp)
 . refine ⟨⟨some g, c', true⟩, vs, w', hrun, hvs, fun Z' ρ' ds hds hdl => ⟨⟨rfl, h0⟩, n' + m, hdl, q2, .inr ⟨g, cur, rfl, k1 (g, _) (by simp), q3, q4, by rw [q5]; exact hds⟩⟩, fun b hb => ?_, q2, k3, k4⟩
   cases hb
   exact k2 (g, .cells cur E (0, 0)) (List.mem_cons_self ..)
theorem appB_sound {t t' ty E : TypeId} {m : Nat} {ys : List AV} {us : List Value} {y : Value} (hs : St Z ρ T w) (hx : Rel Z ρ a u) (h0 : 0 < tsz P E) (hrel : RelL Z ρ ys us) (hyl : ys.length = m * tsz P E) (hul : us.length = m * tsz P E)
 (hA : ∀ (n : Nat) (a : Option Addr) (c : Nat) (vs : List Value) (F : List Fact), lim P E (n + m) -> Ctx w [buf E (tsz P E) a n c vs] F -> ∃ a' c' w', (Builtin.append_ #[t, t'] ty #[.slice a n c, y]).run P w = .ok (.slice a' (n + m) c') w' /\ Ctx w' [buf E (tsz P E) a' (n + m) c' (vs ++ us)] F)
 (h : appB P E a ys m T K) : RunV P (Builtin.append_ #[t, t'] ty #[u, y]) w (Post Z ρ T w K) := by
 cases a with
 | p v0 =>
   unfold appB at h
   split at h
   . rename_i e0
     injection e0 with e0
     have hu : u = .slice none 0 0 := by rw [hx.p_inv, e0]
     rw [hu]
     obtain ⟨hl, hk⟩ := h
     obtain ⟨x', vs, w', g1, g2, g3, g4, g5, g6, g7⟩ := run_app (P := P) (t := t) (t' := t') (ty := ty) (y := y) (x := ⟨none, 0, true⟩) (cs := []) (Z := Z) (ρ := ρ) (n := 0) (sz := tsz P E) ⟨⟨rfl, h0⟩, 0, by simp, by simp, .inl ⟨rfl, rfl, rfl⟩⟩ h0 (by simp) hul (by simpa using hl) (fun a c vs F hc => hA 0 a c vs F (by simpa using hl) hc)
     rw [Nat.zero_add] at g1 g5
     have hvs := g2.unnil
     subst hvs
     have hof : Z.ofc w' := ⟨fun b o hb => by rw [g6 b (hs.lt hb) (by simp)]; exact hs.of.1 _ _ hb, g7.1.trans hs.of.2.1, g7.2.trans hs.of.2.2⟩
     obtain ⟨k1, k2⟩ := hs.push x' (.buf E (tsz P E) ys) hof (fun b hb => g6 b hb (by simp)) (g3 _ _ ys (by simpa using hrel.mono (Heap.le_refl _) (snoc_mono _ _)) (by rw [Nat.zero_add]; exact hyl)) fun b hb => (g4 b hb).resolve_left (by simp)
     exact ⟨_, w', g1, Z, _, _, _, _, k1, k2, sl_new hs x' m g5, hk⟩
   . rename_i e0; cases e0
   . exact h.elim
 | sl i off n =>
   obtain ⟨o, hT, h⟩ := getO_elim h
   unfold appC at h
   split at h
   . rename_i E' sz cs
     obtain ⟨⟨rfl, rfl, rfl, hcl, hl⟩, hk⟩ := h
     cases hx with
     | @sl _ _ _ _ c x ad hx ha hc h00 =>
       have hor := hs.obj _ _ x hT hx
       rw [ha (.inr rfl), h00 rfl hor.1.1]
       obtain ⟨x', vs, w', g1, g2, g3, g4, g5, g6, g7⟩ := run_app (P := P) (t := t) (t' := t') (ty := ty) (y := y) hor h0 hcl hul hl (fun a c vs F hc => hA _ a c vs F hl hc)
       obtain ⟨k1, k2, k3⟩ := hs.move hT hx rfl x' (.buf E' (tsz P E') ((cs ++ ys).map (AV.wo (· == i)))) rfl (w' := w') g6 g7 g4
        (g3 _ _ _ ((g2.append hrel).wo fun j y' hj hy => by rw [List.getElem?_set_ne (by rintro rfl; simp at hj)]; exact hy) (by simp [hcl, hyl, Nat.add_mul]))
       refine ⟨_, w', g1, Z, _, _, _, _, k1, k2, ?_, hk⟩
       refine .sl (x := x') ?_ (fun _ => rfl) g5 fun _ _ => rfl
       have := (List.getElem?_eq_some_iff.1 hx).1
       simp [this]
   . exact h.elim
 | _ => exact h.elim
theorem appA_sound {t ty : TypeId} (hs : St Z ρ T w) (hx : Rel Z ρ a u) (hy : Rel Z ρ b v) (h : appA P (tk P t) a b T K) : RunV P (Builtin.append_ #[t, t] ty #[u, v]) w (Post Z ρ T w K) := by
 generalize hd : tk P t = d at h
 unfold appA at h
 split at h
 . rename_i E
   split at h
   . exact h.elim
   . rename_i hz0
     obtain ⟨z, hz, hzs, h⟩ := getO_elim h
     obtain ⟨e, m, dd, ys, us, rfl, hrel, hyl, hrd, hones, h⟩ := srcA_elim h hs hy
     have hul : us.length = m * tsz P E := by rw [<- hrel.1]; exact hyl
     exact appB_sound hs hx (by omega) hrel hyl hul (fun n a c vs F hl hc => run_append (P := P) (ty := ty) hc hd rfl (by omega) hz hzs hrd hul (hrel.ones hones) hl.1 (Nat.le_trans hl.2 (by unfold maxLen; omega))) h
 . exact h.elim
theorem appS_sound {t t' ty : TypeId} (hs : St Z ρ T w) (hx : Rel Z ρ a u) (hy : Rel Z ρ b v) (h : appS P (tk P t) (tk P t') a b T K) : RunV P (Builtin.append_ #[t, t'] ty #[u, v]) w (Post Z ρ T w K) := by
 generalize hd : tk P t = d at h
 generalize hd' : tk P t' = d' at h
 unfold appS at h
 split at h
 . rename_i E
   obtain ⟨⟨h1, h2, h3⟩, h⟩ := h
   have h := isP_elim h hy
   split at h
   . rename_i x
     have hrel : RelL Z ρ (x.data.toList.map fun b => AV.p (.int .u8 (b.toNat : Int))) (Lib.strCells x) := ⟨by simp [Lib.strCells], fun k a v ha hv => by
      rw [List.getElem?_map] at ha
      rw [Lib.strCells, List.getElem?_map] at hv
      cases hk : x.data.toList[k]? with
      | none => rw [hk] at ha; cases ha
      | some y => rw [hk] at ha hv; cases ha; cases hv; exact .p _⟩
     have hsz : x.data.toList.length = x.size := Array.length_toList
     refine appB_sound hs hx (by omega) hrel (by rw [List.length_map, h1, Nat.mul_one]; exact hsz) (by rw [Lib.strCells_length, h1, Nat.mul_one]) (fun n a c vs F hl hc => ?_) h
     rw [h1] at hc ⊢
     exact run_append_s (P := P) (ty := ty) hc hd hd' h1 h3 h2 hl.1 (Nat.le_trans hl.2 (by unfold maxLen; omega))
   . exact h.elim
 . exact h.elim
theorem foldSet (off : Nat) : ∀ (vs : List Value) (j : Nat) (cs : Array Value), off + j + vs.length <= cs.size -> ((vs.zipIdx j).foldl (fun cs (c, j) => cs.setIfInBounds (off + j) c) cs).toList = wr cs.toList (off + j) vs
 | [], j, cs, h => by simp [wr]
 | v :: vs, j, cs, h => by
   simp only [List.length_cons] at h
   rw [List.zipIdx_cons, List.foldl_cons, foldSet off vs (j + 1) _ (by simp; omega)]
   rw [Array.toList_setIfInBounds]
   unfold wr
   have h1 : off + j < cs.toList.length := by simp; omega
   rw [List.set_eq_take_append_cons_drop, if_pos h1]
   have h2 : (cs.toList.take (off + j)).length = off + j := by simp; omega
   rw [show off + (j + 1) = (cs.toList.take (off + j) ++ [v]).length by simp; omega, show cs.toList.take (off + j) ++ v :: cs.toList.drop (off + j + 1) = (cs.toList.take (off + j) ++ [v]) ++ cs.toList.drop (off + j + 1) by simp]
   rw [List.take_left]
   rw [show (cs.toList.take (off + j) ++ [v]).length + vs.length = (cs.toList.take (off + j) ++ [v]).length + vs.length from rfl, List.drop_append, List.drop_of_length_le (by omega), Nat.add_sub_cancel_left, List.drop_drop]
   simp
   omega
theorem fill_step {place : Nat -> Option (Nat × Nat)} {cells : Array Value} {i off size : Nat} {v : Value} {rest : List (Nat × Value)} (hp : place i = some (off, size)) (h1 : v.cells.size = size) (h2 : off + size <= cells.size) :
 Instr.fill place cells ((i, v) :: rest) = Instr.fill place (wr cells.toList off v.cells.toList).toArray rest := by
 subst h1
 simp only [Instr.fill, hp]
 rw [if_neg (by simp; omega)]
 congr 1
 have := foldSet off v.cells.toList 0 cells (by simpa using h2)
 rw [<- Array.toList_inj, List.toList_toArray, <- Array.foldl_toList, Array.toList_zipIdx]
 exact this
inductive RelP (Z : Heap) (ρ : List BI) : List (Nat × AV) -> List (Nat × Value) -> Prop
 | nil : RelP Z ρ [] []
 | cons {i : Nat} {a : AV} {v : Value} {r : List (Nat × AV)} {s : List (Nat × Value)} (h : Rel Z ρ a v) (hs : RelP Z ρ r s) : RelP Z ρ ((i, a) :: r) ((i, v) :: s)
theorem RelP.map {evA : Operand -> AV} {evV : Operand -> Value} (he : ∀ x, Rel Z ρ (evA x) (evV x)) : ∀ (l : List (Nat × Operand)), RelP Z ρ (l.map fun p => (p.1, evA p.2)) (l.map fun p => (p.1, evV p.2))
 | [] => .nil
 | p :: r => .cons (he _) (RelP.map he r)
theorem fillA_run {sz : Nat} {place : Nat -> Option (Nat × Nat)} (hp : ∀ i, place i = some (i * sz, sz)) : ∀ {pa : List (Nat × AV)} {pv : List (Nat × Value)} {cs ds : List AV} {vs : List Value}, RelP Z ρ pa pv -> RelL Z ρ cs vs -> fillA sz cs pa = some ds -> ∃ us, Instr.fill place vs.toArray pv = some us /\ RelL Z ρ ds us.toList := by
 intro pa pv cs ds vs h
 induction h generalizing cs vs with
 | nil => intro hr hf; cases hf; exact ⟨vs.toArray, rfl, by simpa using hr⟩
 | @cons i a v r s ha hs ih =>
   intro hr hf
   simp only [fillA] at hf
   cases hk : a.known with
   | none => rw [hk] at hf; cases hf
   | some xs =>
     rw [hk] at hf
     simp only at hf
     split at hf
     . rename_i hc
       have hx := ha.known hk
       have hxl : v.cells.size = xs.length := by have := hx.1; simpa using this.symm
       have hl := hr.1
       obtain ⟨us, g1, g2⟩ := ih (wr_rel hr hx (i * sz) hc.2) hf
       refine ⟨us, ?_, g2⟩
       rw [fill_step (hp i) (by omega) (by simp; omega)]
       exact g1
     . cases hf
theorem tff_place {t : TypeId} {fs : Array Field} (hd : tk P t = .struct fs) (hall : fs.all (fun f => tsz P f.type != 0) = true) :
 ∃ places, fs.toList.mapM (fun f => (P.info? f.type).map fun i => (f.offset, i.size)) = some places /\ ∀ i off ft, tff P t i = some (off, ft) -> places.toArray[i]? = some (off, tsz P ft) := by
 have key : ∀ (l : List Field), l.all (fun f => tsz P f.type != 0) = true -> ∃ places, l.mapM (fun f => (P.info? f.type).map fun i => (f.offset, i.size)) = some places /\ ∀ (i : Nat) (f : Field), l[i]? = some f -> places[i]? = some (f.offset, tsz P f.type) := by
  intro l
  induction l with
  | nil => intro _; exact ⟨[], rfl, by simp⟩
  | cons f l ih =>
    intro h
    simp only [List.all_cons, Bool.and_eq_true, bne_iff_ne, ne_eq] at h
    obtain ⟨places, g1, g2⟩ := ih h.2
    obtain ⟨inf, hi, hs, _⟩ := info_of_tsz h.1
    refine ⟨(f.offset, inf.size) :: places, ?_, fun i f' hf => ?_⟩
    . simp [List.mapM_cons, hi, g1]
    . cases i with
      | zero => simp at hf; subst hf; simp [hs]
      | succ i => simpa using g2 i f' (by simpa using hf)
 obtain ⟨places, g1, g2⟩ := key fs.toList (by simpa using hall)
 refine ⟨places, g1, fun i off ft h => ?_⟩
 unfold tff at h
 rw [hd] at h
 simp only at h
 cases hf : fs[i]? with
 | none => rw [hf] at h; cases h
 | some f =>
   rw [hf] at h
   cases h
   simpa using g2 i f (by simpa using hf)
theorem fillS_run {t : TypeId} {place : Nat -> Option (Nat × Nat)} (hp : ∀ i off ft, tff P t i = some (off, ft) -> place i = some (off, tsz P ft)) : ∀ {pa : List (Nat × AV)} {pv : List (Nat × Value)} {cs ds : List AV} {vs : List Value}, RelP Z ρ pa pv -> RelL Z ρ cs vs -> fillS P t cs pa = some ds -> ∃ us, Instr.fill place vs.toArray pv = some us /\ RelL Z ρ ds us.toList := by
 intro pa pv cs ds vs h
 induction h generalizing cs vs with
 | nil => intro hr hf; cases hf; exact ⟨vs.toArray, rfl, by simpa using hr⟩
 | @cons i a v r s ha hs ih =>
   intro hr hf
   simp only [fillS] at hf
   split at hf
   . rename_i off ft xs hk1 hk
     split at hf
     . rename_i hc
       have hx := ha.known hk
       have hxl : v.cells.size = xs.length := by have := hx.1; simpa using this.symm
       have hl := hr.1
       obtain ⟨us, g1, g2⟩ := ih (wr_rel hr hx off hc.2) hf
       refine ⟨us, ?_, g2⟩
       rw [fill_step (hp i off ft hk1) (by omega) (by simp; omega)]
       exact g1
     . cases hf
   . cases hf
theorem madeCells_flat (z : Array Value) (hz : 0 < z.size) : ∀ (k : Nat), (madeCells z (k * z.size)).toList = (List.replicate k z.toList).flatten
 | 0 => by simp [madeCells]
 | k + 1 => by
   rw [List.replicate_succ, List.flatten_cons, <- madeCells_flat z hz k]
   unfold madeCells
   rw [Nat.add_mul, Nat.one_mul, Nat.add_comm]
   refine List.ext_getElem (by simp) fun i h1 h2 => ?_
   simp only [Array.toList_map, Array.toList_range, List.getElem_map, List.getElem_range]
   by_cases hi : i < z.size
   . rw [List.getElem_append_left (by simpa using hi), Nat.mod_eq_of_lt hi]
     simp [hi]
   . rw [List.getElem_append_right (by simpa using hi)]
     simp only [List.getElem_map, List.getElem_range, Array.length_toList]
     rw [Nat.mod_eq_sub_mod (Nat.le_of_not_lt hi)]
theorem zeros_rel (z : Value) (k : Nat) : RelL Z ρ (List.replicate k (z.cells.toList.map AV.p)).flatten (List.replicate k z.cells.toList).flatten := by
 have : (List.replicate k (z.cells.toList.map AV.p)).flatten = ((List.replicate k z.cells.toList).flatten).map .p := by
  rw [List.map_flatten, List.map_replicate]
 rw [this]; exact .ps _
theorem St.newBuf (hs : St Z ρ T w) (E : TypeId) (sz n c : Nat) {vs : List Value} {cur : Array Value} (h0 : 0 < sz) (hv : RelL Z ρ cs vs) (hl : vs.length = n * sz) (hn : n <= c) (hc : c <= maxLen) (hcur : cur.size = c * sz) (ht : cur.toList.take (n * sz) = vs) :
 St Z (ρ ++ [⟨some w.heap.size, c, true⟩]) (T ++ [.buf E sz cs]) (w.alloc (.cells cur E)) /\ Ext Z ρ T w Z (ρ ++ [⟨some w.heap.size, c, true⟩]) (T ++ [.buf E sz cs]) (w.alloc (.cells cur E)) [] := by
 refine hs.push _ _ (alloc_of hs _) (alloc_old _) ⟨⟨rfl, h0⟩, n, by rw [hv.1, hl], hn, .inr ⟨_, cur, rfl, by rw [heap_alloc, if_pos rfl], hc, hcur, ?_⟩⟩ fun b hb => ?_
 . rw [ht]; exact hv.mono (Heap.le_refl _) (snoc_mono _ _)
 . cases hb; exact Nat.le_refl _
theorem blsA_sound {t : TypeId} {k : Nat} {pa : List (Nat × AV)} {pv : List (Nat × Value)} (hs : St Z ρ T w) (hp : RelP Z ρ pa pv) (h : blsA P (tk P t) k pa T K) : RunV P (Instr.buildSlice t k pv.toArray) w (Post Z ρ T w K) := by
 generalize hd : tk P t = d at h
 unfold blsA at h
 split at h
 . rename_i e
   split at h
   . exact h.elim
   . rename_i hz0
     obtain ⟨z, hz, ⟨hzs, hk⟩, h⟩ := getO_elim h
     obtain ⟨ds, hf, h⟩ := getO_elim h
     obtain ⟨i, hi, hsz, _, hzr⟩ := info_of_tsz (P := P) (t := e) hz0
     have hz' : i.zero = some z := by rw [hzr, hz]
     obtain ⟨us, g1, g2⟩ := fillA_run (place := fun j => some (j * tsz P e, tsz P e)) (fun _ => rfl) hp (zeros_rel z k) hf
     have hlen : ds.length = k * tsz P e := by
      have : ∀ {cs ds : List AV} {pa : List (Nat × AV)}, fillA (tsz P e) cs pa = some ds -> ds.length = cs.length := by
       intro cs ds pa
       induction pa generalizing cs with
       | nil => intro h; cases h; rfl
       | cons p r ih =>
         obtain ⟨j, a⟩ := p
         intro h
         simp only [fillA] at h
         split at h
         . cases h
         . split at h
           . rename_i hc; rw [ih h, wrA_length hc.2]
           . cases h
      rw [this hf]
      simp [hzs]
     have hul : us.size = k * tsz P e := by have := g2.1; simp at this; omega
     have hzz : (List.replicate k z.cells.toList).flatten.toArray = (Array.range (k * tsz P e)).map ((if k * tsz P e = 0 then #[] else z.cells)[· % (if k * tsz P e = 0 then #[] else z.cells).size]!) := by
      by_cases hk0 : k * tsz P e = 0
      . rw [hk0]
        have : k = 0 := by rcases Nat.mul_eq_zero.1 hk0 with h | h; exact h; exact (hz0 h).elim
        subst this; simp
      . rw [if_neg hk0]
        have := madeCells_flat z.cells (by omega) k
        rw [hzs] at this
        rw [<- this, Array.toArray_toList]; rfl
     rw [hzz] at g1
     obtain ⟨k1, k2⟩ := hs.newBuf e (tsz P e) k k (vs := us.toList) (cur := us) (by omega) g2 (by simpa using hul) (Nat.le_refl _) (by unfold maxLen; have : k <= k * tsz P e := Nat.le_mul_of_pos_right _ (by omega); omega) hul (List.take_of_length_le (by simp; omega))
     refine ⟨_, w.alloc (.cells us e), ?_, Z, _, _, _, _, k1, k2, sl_new hs _ k (Nat.le_refl _), h⟩
     have hbig : ¬ k * tsz P e > 16777216 := by omega
     by_cases hk0 : k * tsz P e = 0
     . simp only [if_pos hk0] at g1
       simp only [Instr.buildSlice, Sem.run_bind, tis_of hd rfl, Result.andThen_ok, sizeOf, typeInfo, run_program, hi, hsz, Sem.run_pure, show (2 : Nat) ^ 24 = 16777216 from rfl, if_neg hbig, if_pos hk0]
       simp [hk0] at g1
       simp [hk0, g1, newRow]
     . simp only [if_neg hk0] at g1
       simp only [Instr.buildSlice, Sem.run_bind, tis_of hd rfl, Result.andThen_ok, sizeOf, typeInfo, run_program, hi, hsz, Sem.run_pure, show (2 : Nat) ^ 24 = 16777216 from rfl, if_neg hbig, if_neg hk0, zeroValue, hz']
       simp [g1, newRow]
 . exact h.elim
theorem bldA_sound {t : TypeId} {K : AV -> Prop} {I : World -> Prop} {pa : List (Nat × AV)} {pv : List (Nat × Value)} (hp : RelP Z ρ pa pv) (h : bldA P t pa K) : FloatP P (Instr.build t pv.toArray) I (Lft Z ρ K) := by
 obtain ⟨z, hz, h⟩ := getO_elim h
 have hz2 := hz
 unfold tzr at hz2
 cases hi : P.info? t with
 | none => rw [hi] at hz2; cases hz2
 | some inf =>
   rw [hi] at hz2
   have hz' : inf.zero = some z := hz2
   unfold bldC at h
   split at h
   . rename_i hst
     obtain ⟨ds, hf, h⟩ := getO_elim h
     unfold tst at hst
     split at hst
     . rename_i fs hd
       obtain ⟨places, q1, q2⟩ := tff_place hd hst
       obtain ⟨us, g1, g2⟩ := fillS_run (place := (places.toArray[·]?)) q2 hp (RelL.ps z.cells.toList) hf
       have hb : P.built t pv = some us := by
        unfold Program.built
        rw [hi, underlying_some (by rw [hd]; rfl), hd]
        simp only [hz', q1]
        simpa using g1
       refine ⟨_, fun w _ => run_build w t pv.toArray us hb, _, ?_, h⟩
       simpa using Rel.ag' g2
     . cases hst
   . generalize hd : tk P t = d at h
     unfold bldB at h
     split at h
     . rename_i n e
       split at h
       . exact h.elim
       . rename_i hz0
         obtain ⟨ds, hf, h⟩ := getO_elim h
         obtain ⟨ie, hie, hsz, _⟩ := info_of_tsz hz0
         obtain ⟨us, g1, g2⟩ := fillA_run (place := fun j => some (j * tsz P e, tsz P e)) (fun _ => rfl) hp (RelL.ps z.cells.toList) hf
         have hb : P.built t pv = some us := by
          unfold Program.built
          rw [hi, underlying_some (by rw [hd]; rfl), hd]
          simp only [hz', hie, hsz]
          simpa using g1
         refine ⟨_, fun w _ => run_build w t pv.toArray us hb, _, ?_, h⟩
         simpa using Rel.ag' g2
     . exact h.elim
theorem mksA_sound {t : TypeId} (hs : St Z ρ T w) (hx : Rel Z ρ a u) (hy : Rel Z ρ b v) (h : mksA P (tk P t) a b T K) : RunV P (Instr.makeSlice t u v) w (Post Z ρ T w K) := by
 generalize hd : tk P t = d at h
 unfold mksA at h
 split at h
 . rename_i e kx x ky y
   split at h
   . exact h.elim
   . rename_i hz0
     obtain ⟨z, hz, ⟨h1, h2, hzs, hl⟩, h⟩ := getO_elim h
     have := hx.p_inv; subst this
     have := hy.p_inv; subst this
     obtain ⟨i, hi, hsz, hby, hzr⟩ := info_of_tsz (P := P) (t := e) hz0
     have htu : P.underlying t = some (.slice e) := by rw [<- hd]; exact underlying_some (by rw [hd]; rfl)
     have hyn : y = (y.toNat : Int) := by omega
     have hbb : (i.bytes : Int) * y <= 281474976710656 := by
      have := hl.1
      rw [hyn, hby, Int.mul_comm, <- Int.natCast_mul]
      omega
     have hr := run_make (P := P) (w := w) t e i z htu hi (by rw [hzr, hz]) kx ky x y h1 h2 hbb (by have := hl.2; omega)
     have hcur := madeCells_flat z.cells (by omega) y.toNat
     rw [hzs] at hcur
     have htake : (madeCells z.cells (y.toNat * i.size)).toList.take (x.toNat * tsz P e) = (List.replicate x.toNat z.cells.toList).flatten := by
      rw [hsz, hcur]
      rw [show y.toNat = x.toNat + (y.toNat - x.toNat) by omega, <- List.replicate_append_replicate, List.flatten_append]
      rw [List.take_left' (by simp [hzs])]
     obtain ⟨k1, k2⟩ := hs.newBuf e (tsz P e) x.toNat y.toNat (vs := (List.replicate x.toNat z.cells.toList).flatten) (cur := madeCells z.cells (y.toNat * i.size)) (by omega) (zeros_rel z x.toNat) (by simp [hzs]) (by omega)
      (by have := hl.2; unfold maxLen; omega) (by rw [size_madeCells, hsz]) htake
     exact ⟨_, _, hr, Z, _, _, _, _, k1, k2, sl_new hs _ _ (by simp only; omega), h⟩
 . exact h.elim
theorem cpyA_sound {ts : Array TypeId} {ty : TypeId} (hs : St Z ρ T w) (hx : Rel Z ρ a u) (hy : Rel Z ρ b v) (h : cpyA P ts.toList a b T K) : RunV P (Builtin.copy_ ts ty #[u, v]) w (Post Z ρ T w K) := by
 unfold cpyA at h
 split at h
 . rename_i t t' hts
   have hts' : ts = #[t, t'] := by cases ts; simp at hts; simp [hts]
   subst hts'
   generalize hd : tk P t = d at h
   unfold cpyE at h
   split at h
   . rename_i E i off n
     obtain ⟨hsz, h⟩ := h
     obtain ⟨e, m, dd, ys, us, rfl, hrel, hyl, hrd, ⟨hones, hyl', hm, hno⟩, h⟩ := srcA_elim h hs hy
     obtain ⟨o, hT, h⟩ := getO_elim h
     have htu : P.underlying t = some (.slice E) := by rw [<- hd]; exact underlying_some (by rw [hd]; rfl)
     obtain ⟨inf, hi, his, _⟩ := info_of_tsz (P := P) (t := E) (by omega)
     have hul : us.length = m := by rw [<- hrel.1]; exact hyl'
     obtain ⟨q, rfl, hq1, hq2⟩ := hrd.cells (by intro e; rw [e] at hul; simp at hul; omega)
     have htk : RelL Z ρ (ys.take (min m n)) (us.take (min m n)) := hrel.take _
     have hlk : (ys.take (min m n)).length = (us.take (min m n)).length := htk.1
     cases hx with
     | @sl _ _ _ _ c x ad hx ha hc h0 =>
       have hor := hs.obj i o x hT hx
       have run : ∀ (g : Nat) (cur : Array Value) (E' : TypeId) (o' : AObj), x.blk = some g -> o.live = true -> o'.live = true -> w.heap[g]? = some (.cells cur E' (0, 0)) -> off + (us.take (min m n)).length <= cur.size ->
        (∀ w', w'.heap[g]? = some (.cells (wr cur.toList off (us.take (min m n))).toArray E' (0, 0)) -> ObjRel Z ρ w' x o') -> K (.p (.int .i64 (min m n : Nat))) (T.set i o') [(i, false)] ->
        RunV P (Builtin.copy_ #[t, t'] ty #[.slice ad n c, .slice (some q) m dd]) w (Post Z ρ T w K) := by
        intro g cur E' o' hb hl hl' hg hfit hr hk
        rw [ha (.inl hno), hb]
        have hones' : ∀ v ∈ us.take (min m n), v.oneCell' = true := fun v hv => hrel.ones hones v (List.mem_of_mem_take hv)
        have hrun := run_copy_row (P := P) w t t' ty E g off n c q m dd cur E' (us.take (min m n)) htu (by rw [hi]; simp [his, hsz]) hg (by rw [List.length_take, hul]; show min (min m n) m = min m n; omega) (fun j v hv => hq2 j v (by rw [List.getElem?_take] at hv; split at hv; exact hv; cases hv)) hfit hones'
        obtain ⟨k1, k2⟩ := hs.write hT hx hl o' hl' (w' := w.setRow g (wr cur.toList off (us.take (min m n))).toArray) (fun b hb' => setRow_other w g b _ (fun e => hb' (by rw [e]; exact hb))) ⟨rfl, rfl⟩ (hr _ (setRow_heap w g cur _ E' _ hg))
        refine ⟨_, _, hrun, Z, ρ, _, _, _, k1, k2, ?_, hk⟩
        have : (us.take (min m n)).length = min m n := by simp; omega
        rw [this]; exact .p _
       unfold cpyB at h
       split at h
       . rename_i E' cs
         obtain ⟨h1, hk⟩ := h
         obtain ⟨g0, g, vs, e1, e2, e3⟩ := hor
         refine run g vs.toArray E' (.cells E' (wrA cs off (ys.take (min m n)))) e1 rfl rfl e2 (by rw [<- hlk, List.size_toArray, <- e3.1]; exact h1) (fun w' hw' => ⟨g0, g, _, e1, hw', ?_⟩) hk
         exact wr_rel e3 htk off h1
       . rename_i E' sz cs
         obtain ⟨h1, hk⟩ := h
         obtain ⟨g0, k, e1, e2, ⟨e3, rfl, e5⟩ | ⟨g, cur, e3, e4, e5, e6, e7⟩⟩ := hor
         . simp only [List.length_nil] at h1
           have : (ys.take (min m n)).length = min m n := by simp; omega
           omega
         . have hle : k * sz <= cur.toList.length := by rw [Array.length_toList, e6]; exact Nat.mul_le_mul_right _ e2
           refine run g cur E' (.buf E' sz (wrA cs off (ys.take (min m n)))) e3 rfl rfl e4 (by rw [<- hlk]; rw [Array.length_toList] at hle; omega) (fun w' hw' => ⟨g0, k, by rw [wrA_length h1]; exact e1, e2, .inr ⟨g, _, e3, hw', e5, ?_, ?_⟩⟩) hk
           . rw [List.size_toArray, wr_length (by rw [<- hlk]; omega), Array.length_toList, e6]
           . have := wr_rel e7 htk off h1
             rwa [wr_take (by rw [<- hlk]; omega) hle] at this
       . exact h.elim
   . exact h.elim
 . exact h.elim
theorem callA_sound {G : Nat -> AV} {args : List AV} {vs : List Value} (hG : GOK G Z) (hs : St Z ρ T w) (hf : Rel Z ρ a v) (ha : RelL Z ρ args vs) (h : callA P G a args T K) : callV P v vs w (Post Z ρ T w K) := by
 have key : ∀ {e : Bool} {g : FuncId} {args : List AV} {vs : List Value}, RelL Z ρ args vs -> callF e P G g args T K -> callE e P g vs.toArray w (Post Z ρ T w K) := by
  intro e g args vs ha h
  cases e with
  | true => exact h Z ρ w vs hG hs ha
  | false => exact h Z ρ w vs hG hs ha
 unfold callA at h
 split at h
 . have := hf.p_inv; subst this
   have := key ha h
   simpa [callV] using this
 . obtain ⟨us, rfl, h1⟩ := hf.fn_inv
   have := key (ha.append h1) h
   simpa [callV] using this
 . have := hf.p_inv; subst this
   have := h Z ρ w vs hG hs ha
   simpa [callV] using this
 . cases hf with
   | yl hx hb =>
     have := h Z ρ w vs _ _ hG hs ha hx hb
     simpa [callV] using this
 . exact h.elim
theorem St.map_at (hs : St Z ρ T w) {i : Nat} {x : BI} {es : List (Value × AV)} {b : Nat} (hT : T[i]? = some (.map es)) (hx : ρ[i]? = some x) (hb : x.blk = some b) :
 ∃ ms c, w.heap[b]? = some (.map ms c) /\ MapRel Z ρ es ms.toList c := by
 obtain ⟨b', ms, c, g1, g2, g3⟩ := hs.obj _ _ _ hT hx
 rw [hb] at g1; cases g1
 exact ⟨ms, c, g2, g3⟩
theorem run_setMap {b : Nat} {ms ms' : Array MapEntry} {c c' : Nat} (h : w.heap[b]? = some (.map ms c)) : (setObj b (.map ms' c')).run P w = .ok () { w with heap := w.heap.setIfInBounds b (.map ms' c') } := by
 simp [setObj, Sem.run, h]
theorem St.setMap (hs : St Z ρ T w) {i : Nat} {x : BI} {es es' : List (Value × AV)} {b : Nat} {ms ms' : Array MapEntry} {c c' : Nat} (hT : T[i]? = some (.map es)) (hx : ρ[i]? = some x) (hb : x.blk = some b) (hw : w.heap[b]? = some (.map ms c))
 (hm : MapRel Z ρ es' ms'.toList c') : St Z ρ (T.set i (.map es')) { w with heap := w.heap.setIfInBounds b (.map ms' c') } /\ Ext Z ρ T w Z ρ (T.set i (.map es')) { w with heap := w.heap.setIfInBounds b (.map ms' c') } [(i, false)] := by
 have hb' : b < w.heap.size := (Array.getElem?_eq_some_iff.1 hw).1
 refine hs.write hT hx rfl (.map es') rfl (fun k hk => ?_) ⟨rfl, rfl⟩ ⟨b, ms', c', hb, ?_, hm⟩
 . have : b ≠ k := fun e => hk (by rw [<- e]; exact hb)
   simp [Array.getElem?_setIfInBounds, this]
 . simp [Array.getElem?_setIfInBounds, hb']
theorem mapKO_keys {kt : TypeId} {es : List (Value × AV)} {ms : Array MapEntry} {c : Nat} {S : Value -> Prop} (h : MapRel Z ρ es ms.toList c) (hk : ∀ e ∈ es, S e.1) : ∀ e ∈ ms.toList, S e.key := fun e he => by
 have : e.key ∈ ms.toList.map (·.key) := List.mem_map_of_mem he
 rw [<- h.2.1] at this
 obtain ⟨p, hp, e2⟩ := List.mem_map.1 this
 rw [<- e2]; exact hk p hp
theorem MapRel.keys {es : List (Value × AV)} {ms : List MapEntry} {c : Nat} (h : MapRel Z ρ es ms c) {j : Nat} {p : Value × AV} {e : MapEntry} (h1 : es[j]? = some p) (h2 : ms[j]? = some e) : p.1 = e.key := by
 have := congrArg (·[j]?) h.2.1
 simpa [h1, h2] using this
theorem MapRel.nodup {es : List (Value × AV)} {ms : List MapEntry} {c : Nat} (h : MapRel Z ρ es ms c) : (es.map (·.1)).Nodup := by rw [h.2.1]; exact h.2.2.2.2
theorem nodup_at {α β : Type _} {f : α -> β} {l : List α} (h : (l.map f).Nodup) {i j : Nat} {a b : α} (hi : l[i]? = some a) (hj : l[j]? = some b) (e : f a = f b) : i = j := by
 obtain ⟨h1, rfl⟩ := List.getElem?_eq_some_iff.1 hi
 obtain ⟨h2, rfl⟩ := List.getElem?_eq_some_iff.1 hj
 rcases Nat.lt_trichotomy i j with g | g | g
 . have := List.pairwise_iff_getElem.1 h i j (by simpa using h1) (by simpa using h2) g
   simp [e] at this
 . exact g
 . have := List.pairwise_iff_getElem.1 h j i (by simpa using h2) (by simpa using h1) g
   simp [e] at this
open Classical in
theorem MapRel.mset {es : List (Value × AV)} {ms : Array MapEntry} {c : Nat} (h : MapRel Z ρ es ms.toList c) {k y : Value} {x : AV} (hr : Rel Z ρ x y) :
 (kfind ms.toList k = none /\ MapRel Z ρ (mset es k x) (ms.push ⟨k, y, c⟩).toList (c + 1)) ∨ (∃ j e, kfind ms.toList k = some (j, e.val) /\ ms[j]? = some e /\ e.key = k /\ MapRel Z ρ (mset es k x) (ms.modify j fun e => { e with key := k, val := y }).toList c) := by
 rcases kfind_rel h k with ⟨e1, e2⟩ | ⟨j, e0, a0, e1, e2, e3, e4, e5, hr0⟩
 . refine .inl ⟨e1, ?_⟩
   unfold Go.E.mset
   rw [e2]
   obtain ⟨h1, h2, h3, h4, h5⟩ := h
   have hno : ∀ e ∈ ms.toList, e.key ≠ k := fun e he hk => by
    unfold kfind at e1
    have hx : ms.toList.findIdx? (fun e => decide (e.key = k)) = none := by
     cases hf : ms.toList.findIdx? (fun e => decide (e.key = k)) with
     | none => rfl
     | some j =>
       rw [hf] at e1
       have hj := (List.findIdx?_eq_some_iff_getElem.1 hf).1
       simp [hj] at e1
       have : j < ms.size := by simpa using hj
       omega
    rw [List.findIdx?_eq_none_iff] at hx
    simpa [hk] using hx e he
   refine ⟨by simpa using h1.append (.cons hr .nil), by simp [h2], ?_, ?_, ?_⟩
   . simp only [Array.toList_push, List.map_append, List.map_cons, List.map_nil]
     rw [List.nodup_append]
     refine ⟨h3, by simp, fun a ha b hb => ?_⟩
     simp at hb; subst hb
     obtain ⟨e, he, rfl⟩ := List.mem_map.1 ha
     exact Nat.ne_of_lt (h4 e he)
   . intro e he
     simp only [Array.toList_push, List.mem_append, List.mem_singleton] at he
     rcases he with he | rfl
     . exact Nat.lt_succ_of_lt (h4 e he)
     . exact Nat.lt_succ_self _
   . simp only [Array.toList_push, List.map_append, List.map_cons, List.map_nil]
     rw [List.nodup_append]
     refine ⟨h5, by simp, fun a ha b hb => ?_⟩
     simp at hb; subst hb
     obtain ⟨e, he, rfl⟩ := List.mem_map.1 ha
     exact hno e he
 . refine .inr ⟨j, e0, e1, by simpa using e2, e3, ?_⟩
   have hnd := h.nodup
   have hms : Go.E.mset es k x = es.set j (k, x) := by
    unfold Go.E.mset
    rw [e5]
    refine List.ext_getElem? fun i => ?_
    simp only [List.getElem?_map, List.getElem?_set]
    by_cases hi : j = i
    . subst hi
      obtain ⟨g1, _⟩ := List.getElem?_eq_some_iff.1 e4
      rw [e4, if_pos rfl, if_pos g1]; simp
    . rw [if_neg hi]
      cases he : es[i]? with
      | none => rfl
      | some p =>
        have : p.1 ≠ k := fun e => hi (nodup_at hnd e4 he (by simp [e]))
        simp [this]
   rw [hms]
   obtain ⟨g1, rfl⟩ := List.getElem?_eq_some_iff.1 e2
   have g1' : j < ms.size := by simpa using g1
   have hl : (ms.modify j fun e => { e with key := k, val := y }).toList = ms.toList.set j ⟨k, y, (ms.toList[j]).born⟩ := by
    refine List.ext_getElem? fun i => ?_
    simp only [Array.getElem?_toList, Array.getElem?_modify, List.getElem?_set]
    by_cases hi : j = i
    . subst hi; simp [g1']
    . simp [hi]
   rw [hl]
   obtain ⟨h1, h2, h3, h4, h5⟩ := h
   refine ⟨by simpa [List.map_set] using h1.set hr j, ?_, ?_, ?_, ?_⟩
   . simp only [List.map_set, h2]
   . rw [List.map_set]
     have : (ms.toList.map (·.born)).set j (ms.toList[j]).born = ms.toList.map (·.born) := by
      refine List.ext_getElem? fun i => ?_
      simp only [List.getElem?_set, List.getElem?_map]
      by_cases hi : j = i
      . subst hi; simp [g1']
      . simp [hi]
     show ((ms.toList.map (·.born)).set j (ms.toList[j]).born).Nodup
     rw [this]; exact h3
   . intro e he
     rcases List.mem_or_eq_of_mem_set he with he | rfl
     . exact h4 e he
     . have := h4 (ms.toList[j]) (List.getElem_mem g1)
       exact this
   . rw [List.map_set]
     have : (ms.toList.map (·.key)).set j k = ms.toList.map (·.key) := by
      refine List.ext_getElem? fun i => ?_
      simp only [List.getElem?_set, List.getElem?_map]
      by_cases hi : j = i
      . subst hi; simp [g1', <- e3]
      . simp [hi]
     show ((ms.toList.map (·.key)).set j k).Nodup
     rw [this]; exact h5
theorem mupA_sound {t : TypeId} {c : AV} {y : Value} (hs : St Z ρ T w) (hx : Rel Z ρ a u) (hy : Rel Z ρ b v) (hz : Rel Z ρ c y) (h : mupA P (tk P t) a b c T K) : RunV P (do Instr.mapUpdate t u v y; pure undef) w (Post Z ρ T w K) := by
 generalize hd : tk P t = d at h
 unfold mupA at h
 split at h
 . rename_i kt _
   obtain ⟨kv, hk, h⟩ := getO_elim h
   have := hy.flat hk; subst this
   unfold mupB at h
   split at h
   . rename_i i
     obtain ⟨o, hT, h⟩ := getO_elim h
     unfold mupC at h
     split at h
     . rename_i es
       obtain ⟨⟨S, hS, hk1, hk2⟩, h⟩ := h
       cases hx with
       | mp hx hb =>
       obtain ⟨ms, cl, hw, hm⟩ := hs.map_at hT hx hb
       have hg := run_getObjM (P := P) hw
       have hf := hS.find w hk1 ms.toList (mapKO_keys (kt := kt) hm hk2) hm.2.2.2.2
       rcases hm.mset (k := v) hz with ⟨e1, e2⟩ | ⟨j, e0, e1, e3, e4, e2⟩
       . obtain ⟨k1, k2⟩ := hs.setMap hT hx hb hw e2
         refine ⟨undef, _, ?_, Z, ρ, _, _, _, k1, k2, .p _, h⟩
         rw [e1] at hf
         simp only [Instr.mapUpdate, Sem.run_bind, tis_of hd rfl, Result.andThen_ok, hg, hS.check w false hk1, hf, run_setMap hw, Sem.run_pure]
       . obtain ⟨k1, k2⟩ := hs.setMap hT hx hb hw e2
         refine ⟨undef, _, ?_, Z, ρ, _, _, _, k1, k2, .p _, h⟩
         rw [e1] at hf
         simp only [Instr.mapUpdate, Sem.run_bind, tis_of hd rfl, Result.andThen_ok, hg, hS.check w false hk1, hf, e3, Option.map_some, Option.getD_some, e4, hS.stays w hk1, run_setMap hw, Sem.run_pure]
     . exact h.elim
   . exact h.elim
 . exact h.elim
theorem St.toRcd (hs : St Z ρ T w) {i : Nat} {x : BI} {es es' : List (Value × AV)} {b : Nat} {ms ms' : Array MapEntry} {c c' : Nat} (hT : T[i]? = some (.map es)) (hx : ρ[i]? = some x) (hb : x.blk = some b) (hw : w.heap[b]? = some (.map ms c))
 (hm : MapRel Z ρ es' ms'.toList c') : St Z ρ (T.set i (.rcd (.map ms' c') (es'.map (·.2)) (ms'.toList.map (·.val)))) { w with heap := w.heap.setIfInBounds b (.map ms' c') } /\ Ext Z ρ T w Z ρ (T.set i (.rcd (.map ms' c') (es'.map (·.2)) (ms'.toList.map (·.val)))) { w with heap := w.heap.setIfInBounds b (.map ms' c') } [(i, false)] := by
 have hb' : b < w.heap.size := (Array.getElem?_eq_some_iff.1 hw).1
 refine hs.write (w' := { w with heap := w.heap.setIfInBounds b (.map ms' c') }) hT hx rfl (.rcd (.map ms' c') (es'.map (·.2)) (ms'.toList.map (·.val))) rfl (fun k hk => ?_) ⟨rfl, rfl⟩ ⟨b, hb, ?_, hm.1⟩
 . have : b ≠ k := fun e => hk (by rw [<- e]; exact hb)
   simp [Array.getElem?_setIfInBounds, this]
 . simp [Array.getElem?_setIfInBounds, hb']
theorem MapRel.mf {es : List (Value × AV)} {ms : Array MapEntry} {c : Nat} (h : MapRel Z ρ es ms.toList c) : MF es ms c := ⟨h.2.1, h.2.2.1, h.2.2.2.1, h.2.2.2.2⟩
theorem modify_same {ms : Array MapEntry} {j : Nat} {e : MapEntry} {f g : MapEntry -> MapEntry} (h : ms[j]? = some e) (he : f e = g e) : ms.modify j f = ms.modify j g := by
 refine Array.ext (by simp) fun i h1 h2 => ?_
 simp only [Array.getElem_modify]
 split
 . rename_i hi
   subst hi
   obtain ⟨g1, g2⟩ := Array.getElem?_eq_some_iff.1 h
   rw [g2, he]
 . rfl
open Classical in
theorem mset_at {es : List (Value × AV)} {k : Value} {x : AV} {j : Nat} {a : AV} (h : es[j]? = some (k, a)) : ∃ a', (mset es k x)[j]? = some (k, a') := by
 unfold mset
 split
 . exact ⟨x, by rw [List.getElem?_map, h]; simp⟩
 . exact ⟨a, by rw [List.getElem?_append_left (List.getElem?_eq_some_iff.1 h).1]; exact h⟩
theorem menA_sound {t : TypeId} (hs : St Z ρ T w) (hx : Rel Z ρ a u) (hy : Rel Z ρ b v) (h : menA P (tk P t) a b T K) : RunV P (Instr.mapEntry t u v) w (Post Z ρ T w K) := by
 generalize hd : tk P t = d at h
 unfold menA at h
 split at h
 . rename_i kt el
   obtain ⟨kv, hk, h⟩ := getO_elim h
   have := hy.flat hk; subst this
   obtain ⟨z, hz, h⟩ := getO_elim h
   unfold menB at h
   split at h
   . rename_i i
     obtain ⟨o, hT, h⟩ := getO_elim h
     unfold menC at h
     split at h
     . rename_i es
       obtain ⟨⟨S, hS, hk1, hk2⟩, h⟩ := h
       cases hx with
       | mp hx hb =>
       obtain ⟨ms, cl, hw, hm⟩ := hs.map_at hT hx hb
       have hg := run_getObjM (P := P) hw
       have hf := hS.find w hk1 ms.toList (mapKO_keys (kt := kt) hm hk2) hm.2.2.2.2
       rcases kfind_rel hm v with ⟨e1, e2⟩ | ⟨j, e0, a0, e1, e3, e4, e5, e6, hr0⟩
       . rw [e2, Option.getD_none] at h
         rcases hm.mset (k := v) (x := .p z) (y := z) (.p z) with ⟨_, g2⟩ | ⟨j, e, g1, _⟩
         . obtain ⟨k1, k2⟩ := hs.toRcd hT hx hb hw g2
           refine ⟨.tuple #[z, goInt cl], _, ?_, Z, ρ, _, _, _, k1, k2, ?_, h _ _ cl g2.mf ?_⟩
           . rw [e1] at hf
             simp only [Instr.mapEntry, Sem.run_bind, tis_of hd rfl, Result.andThen_ok, hg, hS.check w false hk1, hf, run_setMap hw, Sem.run_pure, zero_run hz]
           . refine .tu (vs := [z, goInt cl]) rfl fun k h1 h2 => ?_
             match k with
             | 0 => exact .p z
             | 1 => exact .p _
           . refine ⟨ms.size, ⟨v, z, cl⟩, .p z, by simp, rfl, ?_⟩
             unfold mset
             rw [e2]
             have hl : es.length = ms.size := by simpa using congrArg List.length hm.2.1
             rw [List.getElem?_append_right (by omega), hl, Nat.sub_self]; rfl
         . rw [e1] at g1; cases g1
       . rw [e6, Option.getD_some] at h
         rcases hm.mset (k := v) hr0 with ⟨g1, _⟩ | ⟨j2, e, g1, g3, g4, g2⟩
         . rw [e1] at g1; cases g1
         . rw [e1] at g1
           have hj : j = j2 := by
            have := congrArg (fun o => o.map (·.1)) g1
            simpa using this
           subst hj
           have hee : e0 = e := by rw [show ms.toList[j]? = ms[j]? by simp] at e3; rw [e3] at g3; exact Option.some.inj g3
           subst hee
           rw [modify_same (g := fun e => { e with key := v }) g3 rfl] at g2
           obtain ⟨k1, k2⟩ := hs.toRcd hT hx hb hw g2
           refine ⟨.tuple #[e0.val, goInt e0.born], _, ?_, Z, ρ, _, _, _, k1, k2, ?_, h _ _ e0.born g2.mf ?_⟩
           . rw [e1] at hf
             simp only [Instr.mapEntry, Sem.run_bind, tis_of hd rfl, Result.andThen_ok, hg, hS.check w false hk1, hf, g3, Option.map_some, Option.getD_some, g4, hS.stays w hk1, run_setMap hw, Sem.run_pure]
           . refine .tu (vs := [e0.val, goInt e0.born]) rfl fun k h1 h2 => ?_
             match k with
             | 0 => exact hr0
             | 1 => exact .p _
           . obtain ⟨a', ha'⟩ := mset_at (x := a0) e5
             refine ⟨j, { e0 with key := v }, a', ?_, rfl, ha'⟩
             rw [Array.getElem?_modify, if_pos rfl, g3]; rfl
     . exact h.elim
   . exact h.elim
 . exact h.elim
theorem estA_sound {t : TypeId} {c : AV} {y : Value} (hs : St Z ρ T w) (hx : Rel Z ρ a u) (hy : Rel Z ρ b v) (hz : Rel Z ρ c y) (h : estA a b c T K) : RunV P (do Instr.entryStore t u v y; pure undef) w (Post Z ρ T w K) := by
 unfold estA at h
 split at h
 . rename_i i ik s
   obtain ⟨o, hT, h⟩ := getO_elim h
   unfold estC at h
   split at h
   . rename_i ms cl cs vs
     obtain ⟨es, k, s, rfl, hf, ⟨j, e, a0, m1, m2, m3⟩, rfl, rfl, h⟩ := h
     have := hy.p_inv; subst this
     cases hx with
     | mp hx hb =>
     rename_i b0 x
     obtain ⟨b', g1, g2, g3⟩ := hs.obj _ _ _ hT hx
     rw [hb] at g1; cases g1
     have hm : MapRel Z ρ es ms.toList cl := ⟨g3, hf.1, hf.2.1, hf.2.2.1, hf.2.2.2⟩
     have hg := run_getObjM (P := P) g2
     have hkey : e.key = k := (hm.keys m3 (by simpa using m1)).symm
     have hborn : ms.findIdx? (fun e => (e.born : Int) == (s : Int)) = some j := by
      rw [Array.findIdx?_eq_some_iff_getElem]
      obtain ⟨q1, q2⟩ := Array.getElem?_eq_some_iff.1 m1
      refine ⟨q1, by rw [q2, m2]; simp, fun i2 hi2 => ?_⟩
      simp only [beq_iff_eq]
      intro he
      have hi3 : i2 < ms.size := by omega
      have := nodup_at (f := fun e : MapEntry => e.born) hf.2.1 (i := i2) (j := j) (a := ms[i2]) (b := e) (by simp [hi3]) (by simpa using m1) (by rw [m2]; omega)
      omega
     have hkf : kfind ms.toList k = some (j, e.val) := by
      rcases kfind_rel hm k with ⟨q1, q2⟩ | ⟨j3, e3, a3, q1, q3, q4, q5, q6, _⟩
      . exfalso
        unfold mfind at q2
        rw [Option.map_eq_none_iff, List.find?_eq_none] at q2
        have := q2 _ (List.mem_of_getElem? m3)
        simp at this
      . have hj : j3 = j := nodup_at (f := fun e : MapEntry => e.key) hf.2.2.2 (a := e3) (b := e) q3 (by simpa using m1) (by rw [q4, hkey])
        subst hj
        have : e3 = e := by
         rw [show ms.toList[j3]? = ms[j3]? by simp, m1] at q3
         exact (Option.some.inj q3).symm
        rw [q1, this]
     rcases hm.mset (k := k) hz with ⟨q1, _⟩ | ⟨j2, e2, q1, q3, q4, q2⟩
     . rw [hkf] at q1; cases q1
     . rw [hkf] at q1
       have hj : j = j2 := by
        have := congrArg (fun o => o.map (·.1)) q1
        simpa using this
       subst hj
       have hee : e = e2 := by rw [m1] at q3; exact Option.some.inj q3
       subst hee
       rw [modify_same (g := fun e => { e with val := y }) q3 (by rw [<- q4])] at q2
       have hb' : b0 < w.heap.size := (Array.getElem?_eq_some_iff.1 g2).1
       obtain ⟨k1, k2⟩ := hs.write hT hx rfl (.map (mset es k c)) (w' := { w with heap := w.heap.setIfInBounds b0 (.map (ms.modify j fun e => { e with val := y }) cl) }) rfl (fun k hk => by
        have : b0 ≠ k := fun e => hk (by rw [<- e]; exact hb)
        simp [Array.getElem?_setIfInBounds, this]) ⟨rfl, rfl⟩ ⟨b0, _, cl, hb, by simp [Array.getElem?_setIfInBounds, hb'], q2⟩
       refine ⟨undef, _, ?_, Z, ρ, _, _, _, k1, k2, .p _, h⟩
       simp only [Instr.entryStore, Sem.run_bind, Result.andThen_ok, hg, asInt, asIntOf, Sem.run_pure, hborn, run_setMap g2]
   . exact h.elim
 . exact h.elim
open Classical in
theorem MapRel.mdel {es : List (Value × AV)} {ms : Array MapEntry} {c : Nat} (h : MapRel Z ρ es ms.toList c) (k : Value) :
 (kfind ms.toList k = none /\ MapRel Z ρ (mdel es k) ms.toList c) ∨ (∃ j v, kfind ms.toList k = some (j, v) /\ MapRel Z ρ (mdel es k) (ms.eraseIdxIfInBounds j).toList c) := by
 rcases kfind_rel h k with ⟨e1, e2⟩ | ⟨j, e0, a0, e1, e2, e3, e4, e5, hr0⟩
 . refine .inl ⟨e1, ?_⟩
   have : Go.E.mdel es k = es := by
    unfold Go.E.mdel
    rw [List.filter_eq_self]
    intro e he
    unfold mfind at e2
    rw [Option.map_eq_none_iff, List.find?_eq_none] at e2
    simpa using e2 e he
   rw [this]; exact h
 . refine .inr ⟨j, _, e1, ?_⟩
   have hnd := h.nodup
   obtain ⟨g1, g2⟩ := List.getElem?_eq_some_iff.1 e4
   have hms : Go.E.mdel es k = es.eraseIdx j := by
    unfold Go.E.mdel
    rw [List.eraseIdx_eq_take_drop_succ]
    have hsplit : es = es.take j ++ (es[j] :: es.drop (j + 1)) := by rw [List.getElem_cons_drop, List.take_append_drop]
    have ha : ∀ e ∈ es.take j, (!decide (e.1 = k)) = true := fun e he => by
     obtain ⟨i, hi, rfl⟩ := List.getElem_of_mem he
     simp only [List.length_take] at hi
     rw [List.getElem_take]
     have : (es[i]'(by omega)).1 ≠ k := fun e => by
      have := nodup_at hnd (i := i) (j := j) (a := es[i]'(by omega)) (b := es[j]) (by simp) (by simp [g1]) (by rw [e, g2])
      omega
     simpa using this
    have hb : ∀ e ∈ es.drop (j + 1), (!decide (e.1 = k)) = true := fun e he => by
     obtain ⟨i, hi, rfl⟩ := List.getElem_of_mem he
     simp only [List.length_drop] at hi
     rw [List.getElem_drop]
     have : (es[j + 1 + i]'(by omega)).1 ≠ k := fun e => by
      have := nodup_at hnd (i := j + 1 + i) (j := j) (a := es[j + 1 + i]'(by omega)) (b := es[j]) (by simp) (by simp [g1]) (by rw [e, g2])
      omega
     simpa using this
    conv => lhs; rw [hsplit]
    rw [List.filter_append, List.filter_cons, List.filter_eq_self.2 ha, List.filter_eq_self.2 hb, g2]
    simp
   rw [hms]
   have hj : j < ms.size := by have := (List.getElem?_eq_some_iff.1 e2).1; simpa using this
   have hl : (ms.eraseIdxIfInBounds j).toList = ms.toList.eraseIdx j := by
    rw [Array.eraseIdxIfInBounds, dif_pos hj, Array.toList_eraseIdx]
   rw [hl]
   obtain ⟨h1, h2, h3, h4, h5⟩ := h
   have hmap : ∀ {α β : Type} (f : α -> β) (l : List α), (l.eraseIdx j).map f = (l.map f).eraseIdx j := fun f l => by
    rw [List.eraseIdx_eq_take_drop_succ, List.eraseIdx_eq_take_drop_succ]; simp
   refine ⟨?_, by rw [hmap, hmap, h2], ?_, fun e he => h4 e (List.mem_of_mem_eraseIdx he), ?_⟩
   . rw [hmap, hmap]
     have g := (h1.take j).append (h1.drop (j + 1))
     rwa [<- List.eraseIdx_eq_take_drop_succ, <- List.eraseIdx_eq_take_drop_succ] at g
   . rw [hmap]; exact h3.sublist (List.eraseIdx_sublist _ _)
   . rw [hmap]; exact h5.sublist (List.eraseIdx_sublist _ _)
theorem mdlA_sound {t ty : TypeId} {ts : Array TypeId} (hs : St Z ρ T w) (hx : Rel Z ρ a u) (hy : Rel Z ρ b v) (ht : ts[0]? = some t) (h : mdlA P (tk P t) a b T K) : RunV P (Builtin.delete_ ts ty #[u, v]) w (Post Z ρ T w K) := by
 generalize hd : tk P t = d at h
 unfold mdlA at h
 split at h
 . rename_i kt _
   obtain ⟨kv, hk, h⟩ := getO_elim h
   have := hy.flat hk; subst this
   unfold mdlB at h
   split at h
   . rename_i i
     obtain ⟨o, hT, h⟩ := getO_elim h
     unfold mdlC at h
     split at h
     . rename_i es
       obtain ⟨⟨S, hS, hk1, hk2⟩, h⟩ := h
       cases hx with
       | mp hx hb =>
       obtain ⟨ms, cl, hw, hm⟩ := hs.map_at hT hx hb
       have hg := run_getObjM (P := P) hw
       have hf := hS.find w hk1 ms.toList (mapKO_keys (kt := kt) hm hk2) hm.2.2.2.2
       rcases hm.mdel v with ⟨e1, e2⟩ | ⟨j, e0, e1, e2⟩
       . obtain ⟨k1, k2⟩ := hs.setMap hT hx hb hw e2
         refine ⟨.tuple #[], _, ?_, Z, ρ, _, _, _, k1, k2, .p _, h⟩
         rw [e1] at hf
         simp [Builtin.delete_, ht, tis_of hd rfl, hg, hS.check w _ hk1, hf, run_setMap hw]
       . obtain ⟨k1, k2⟩ := hs.setMap hT hx hb hw e2
         refine ⟨.tuple #[], _, ?_, Z, ρ, _, _, _, k1, k2, .p _, h⟩
         rw [e1] at hf
         simp [Builtin.delete_, ht, tis_of hd rfl, hg, hS.check w _ hk1, hf, run_setMap hw]
     . exact h.elim
   . exact h.elim
 . exact h.elim
theorem mkmA_sound {t : TypeId} {r : Option AV} {r' : Option Value} (hs : St Z ρ T w) (hr : ∀ a, r = some a -> ∃ v, r' = some v /\ Rel Z ρ a v) (hr0 : r = none -> r' = none) (h : mkmA P (tk P t) r T K) : RunV P (Instr.makeMap t r') w (Post Z ρ T w K) := by
 have key : K (.mp T.length) (T ++ [.map []]) [] -> (Instr.makeMap t r').run P w = .ok (.map (some w.heap.size)) (w.alloc (.map #[] 0)) -> RunV P (Instr.makeMap t r') w (Post Z ρ T w K) := fun hk hrun => by
  obtain ⟨k1, k2⟩ := hs.push (w' := w.alloc (.map #[] 0)) ⟨some w.heap.size, 0, false⟩ (.map []) (alloc_of hs _) (alloc_old _) ⟨w.heap.size, #[], 0, rfl, by rw [heap_alloc, if_pos rfl], .nil, rfl, by simp, by simp, by simp⟩ (fun b hb => by cases hb; exact Nat.le_refl _)
  refine ⟨_, _, hrun, Z, _, _, _, _, k1, k2, ?_, hk⟩
  refine .mp (x := ⟨some w.heap.size, 0, false⟩) ?_ rfl
  rw [<- hs.len, getElem?_snoc, if_pos rfl]
 unfold mkmA at h
 split at h
 . rw [hr0 rfl]
   rw [hr0 rfl] at key
   exact key h (by simp [Instr.makeMap])
 . rename_i k n kt e hd
   obtain ⟨v, h1, h2⟩ := hr _ rfl
   have := h2.p_inv; subst this
   rw [h1] at key ⊢
   exact key h (by simp [Instr.makeMap, asInt, asIntOf, tis_of hd rfl])
 . exact h.elim
theorem St.hold (hs : St Z ρ T w) {b : Nat} {o : Obj} (hb : w.heap.size <= b) (hw : w'.heap[b]? = some o) (hk : ∀ c, c < w.heap.size -> w'.heap[c]? = w.heap[c]?) (ho : w'.os = w.os /\ w'.output = w.output) :
 ∃ Z', Heap.le Z Z' /\ Z' b = some o /\ St Z' ρ T w' /\ Ext Z ρ T w Z' ρ T w' [] := by
 have hnone : Z b = none := by
  cases hg : Z b with
  | none => rfl
  | some x => exact absurd (hs.lt hg) (by omega)
 have hct : ∀ c x, Z c = some x -> (if c = b then none else Z.cut c) = Z.cut c := fun c x hc => if_neg (by rintro rfl; rw [hnone] at hc; cases hc)
 refine ⟨⟨fun c => if c = b then some o else Z c, Z.os, Z.out, fun c => if c = b then none else Z.cut c⟩, ⟨fun c x hc => ?_, rfl, rfl, hct⟩, by simp, ⟨⟨fun c x hc => ?_, ?_, ?_⟩, hs.len, fun i x y hT hx => ?_, fun i x y c hT hl hx hc => ?_⟩, ⟨⟨fun c x hc => ?_, rfl, rfl, hct⟩, fun _ _ h _ => h, fun i x y c hT hl hx hc hn => ⟨hk _ ((hs.obj _ _ _ hT hx).blk_lt hl hc), _, hT, hl⟩⟩⟩
 . by_cases e : c = b
   . subst e; rw [hnone] at hc; cases hc
   . simpa [e] using hc
 . by_cases e : c = b
   . subst e
     have : o = x := by simpa using hc
     rw [<- this]
     show Held (if c = c then none else _) _ _
     rw [if_pos rfl]; exact hw
   . have hc' : Z c = some x := by simpa [e] using hc
     show Held (if c = b then none else _) _ _
     rw [hk c (hs.lt hc'), if_neg e]; exact hs.of.1 c x hc'
 . rw [ho.1]; exact hs.of.2.1
 . rw [ho.2]; exact hs.of.2.2
 . have h1 := hs.obj _ _ _ hT hx
   by_cases hl : x.live = true
   . refine (h1.world (w' := w') fun c hc => hk c (h1.blk_lt hl hc)).mono ⟨fun c z hc => ?_, rfl, rfl, hct⟩ fun _ _ h => h
     by_cases e : c = b
     . subst e; rw [hnone] at hc; cases hc
     . simpa [e] using hc
   . cases x <;> first | (exact absurd rfl hl) | trivial
 . obtain ⟨g1, g2⟩ := hs.apart i x y c hT hl hx hc
   refine ⟨?_, g2⟩
   have : c < w.heap.size := (hs.obj _ _ _ hT hx).blk_lt hl hc
   have e : ¬ c = b := by omega
   simpa [e] using g1
 . by_cases e : c = b
   . subst e; rw [hnone] at hc; cases hc
   . simpa [e] using hc
theorem bytesWorld_os (w : World) (e : TypeId) (s : ByteArray) : (Lib.bytesWorld w e s).os = w.os /\ (Lib.bytesWorld w e s).output = w.output := by
 simp [Lib.bytesWorld, World.freeze, World.alloc, World.drew, -World.alloc_eq, -World.drew_eq]
theorem cvoA_sound {s t : TypeId} (hs : St Z ρ T w) (hr : Rel Z ρ a v) (h : cvoA P (tk P s) (tk P t) s t a T K) : convV (tk P s) (tk P t) s t v (fun s => RunV P s w (Post Z ρ T w K)) (fun v => Post Z ρ T w K v w) := by
 generalize hd : tk P s = d at h ⊢
 generalize he : tk P t = e at h ⊢
 unfold cvoA at h
 split at h
 . rename_i el
   obtain ⟨hel, h⟩ := h
   have h := isP_elim h hr
   split at h
   . rename_i x
     simp only [convV]
     have hrun := Lib.run_convert_string_bytes w s t el x (u := .string) (und_of hd rfl) (und_of he rfl) (und_of hel rfl)
     obtain ⟨Z', h1, h2, h3, h4⟩ := hs.hold (w' := Lib.bytesWorld w el x) (Nat.le_refl _) (Lib.bytesWorld_at_new w el x) (fun c hc => Lib.bytesWorld_at_old w el x c hc) (bytesWorld_os w el x)
     refine ⟨_, _, hrun, Z', ρ, T, [], _, h3, h4, ?_, h⟩
     have hx : x.size = x.data.toList.length := by rw [Array.length_toList]; rfl
     refine .vs (f := fun k => .int .u8 ((x.data.toList.getD k 0).toNat : Int)) ?_ h2 (fun k hk => ?_) (fun k hk => ?_)
     . exact grownCap_ge _ _ _ _
     . simp only [List.length_map] at hk
       have := Lib.bytesWorld_cell w el x k (by omega)
       simpa [World.cell?, Lib.bytesWorld_at_new] using this
     . simp only [List.getElem_map]
       simp only [List.length_map] at hk
       have : x.data.toList.getD k 0 = x.data.toList[k] := by rw [List.getD_eq_getElem?_getD, List.getElem?_eq_getElem hk]; rfl
       rw [this]; exact .p _
   . exact h.elim
 . rename_i el el'
   split at h
   . rename_i j off n
     obtain ⟨⟨rfl, hel⟩, h⟩ := h
     unfold mkbA at h
     split at h
     . rename_i E sz cs hT
       obtain ⟨⟨hp, hne, hn⟩, h⟩ := h
       cases hr with
       | @sl _ _ _ _ c x ad hx ha hc h0 =>
         obtain ⟨hg, n', e1, e2, ⟨e3, rfl, e5⟩ | ⟨b, cur, e3, e4, e5, e6, e7⟩⟩ := hs.obj _ _ x hT hx
         . exact absurd rfl hne
         have had := ha hn
         rw [e3] at had
         subst had
         have hsh : w.shape? b = some (E, cur.size) := by simp [World.shape?, e4]
         have htu : P.underlying s = some (.slice el) := und_of hd rfl
         have htu' : P.underlying s = some (.slice el') := und_of he rfl
         have heu : P.underlying el' = some (.int .u8) := und_of hel rfl
         have hF : (w.freeze ⟨b, cur.size, none⟩ 1).heap[b]? = some (.cells cur E (cur.size, cur.size + 1)) := by simp [World.freeze, Array.getElem?_modify, e4]
         have hO : ∀ k, x.blk ≠ some k -> (w.freeze ⟨b, cur.size, none⟩ 1).heap[k]? = w.heap[k]? := fun k hk => by
          have : b ≠ k := fun e => hk (by rw [e3, e])
          simp [World.freeze, Array.getElem?_modify, this]
         obtain ⟨k1, k2⟩ := hs.write (w' := w.freeze ⟨b, cur.size, none⟩ 1) hT hx rfl (.raw (.cells cur E (cur.size, cur.size + 1))) rfl hO ⟨by simp [World.freeze], by simp [World.freeze]⟩ ⟨b, e3, hF⟩
         have hj := (List.getElem?_eq_some_iff.1 hT).1
         have hT' : (T.set j (.raw (.cells cur E (cur.size, cur.size + 1))))[j]? = some (.raw (.cells cur E (cur.size, cur.size + 1))) := by simp [hj]
         have hnone := (k1.apart j _ x b hT' rfl hx e3).1
         let Z' : Heap := ⟨fun b' => if b' = b then some (.cells cur E (cur.size, cur.size + 1)) else Z b', Z.os, Z.out, fun b' => if b' = b then none else Z.cut b'⟩
         have hle : Heap.le Z Z' := ⟨fun b' ob hb' => by
          show (if b' = b then _ else _) = _
          rw [if_neg (by rintro rfl; rw [hnone] at hb'; cases hb')]; exact hb', rfl, rfl, fun b' ob hb' => if_neg (by rintro rfl; rw [hnone] at hb'; cases hb')⟩
         have hof : Z'.ofc (w.freeze ⟨b, cur.size, none⟩ 1) := ⟨fun b' ob hb' => by
          replace hb' : (if b' = b then some (Obj.cells cur E (cur.size, cur.size + 1)) else Z b') = some ob := hb'
          by_cases e : b' = b
          . subst e; rw [if_pos rfl] at hb'
            show Held (if b' = b' then none else _) _ _
            rw [if_pos rfl, hF]; exact hb'
          . rw [if_neg e] at hb'
            show Held (if b' = b then none else _) _ _
            rw [if_neg e]; exact k1.of.1 _ _ hb', k1.of.2⟩
         have hZb : Z' b = some (.cells cur E (cur.size, cur.size + 1)) := if_pos rfl
         have hg1 : ∀ (k : Nat) (v : Value), (cur.toList.take (n' * sz))[k]? = some v -> cur[0 + k]? = some v := fun k v hk => by
          rw [List.getElem?_take] at hk
          split at hk
          . simpa using hk
          . cases hk
         have hrow : Row Z' x cs := .inr ⟨b, _, E, _, cur.toList.take (n' * sz), e3, hZb, by simpa using hg1, (e7.clean (ρ' := []) (allP_clean hp)).mono hle (by simp)⟩
         obtain ⟨m1, m2, m3⟩ := k1.publishG hT' rfl hx hle hof hrow (fun b' hb' => if_neg fun e => hb' (by rw [e]; exact e3))
         have eT : ((T.set j (.raw (.cells cur E (cur.size, cur.size + 1)))).map (AObj.pub j cs)).set j .gone = (T.map (AObj.pub j cs)).set j .gone := by rw [List.map_set, List.set_set]
         rw [eT] at m1 m2
         refine ⟨_, w.freeze ⟨b, cur.size, none⟩ 1, ?_, Z', ρ, _, _, _, m1, (k2.trans m2).more fun y hy _ => ?_, m3 _ _ (.sl hx ha hc h0), h⟩
         . simp [convert, run_underlying htu', run_underlying heu, markStringish, hsh]
         . simpa using hy
     . exact h.elim
   . rw [<- hd, <- he] at h ⊢
     refine convV_mono (cnvA_sound (K := fun a => K a T []) hs h hr) (fun s ⟨v, h1, a, h4, h5⟩ => ?_) fun v ⟨a, h1, h2⟩ => ?_
     . exact ⟨v, w, h1 w (agr_self hs), Z, ρ, T, [], a, hs, Ext.refl rfl, h4, h5⟩
     . exact ⟨Z, ρ, T, [], a, hs, Ext.refl rfl, h1, h2⟩
 . subst hd; subst he
   refine convV_mono (cnvA_sound (K := fun a => K a T []) hs h hr) (fun s ⟨v, h1, a, h4, h5⟩ => ?_) fun v ⟨a, h1, h2⟩ => ?_
   . exact ⟨v, w, h1 w (agr_self hs), Z, ρ, T, [], a, hs, Ext.refl rfl, h4, h5⟩
   . exact ⟨Z, ρ, T, [], a, hs, Ext.refl rfl, h1, h2⟩
theorem opA_sound {G : Nat -> AV} {evA : Operand -> AV} {evV : Operand -> Value} {o : Op} {ty : TypeId} (hG : GOK G Z) (hs : St Z ρ T w) (he : ∀ x, Rel Z ρ (evA x) (evV x)) (h : opA P G evA o ty T K) :
 opV P evV o ty w (Post Z ρ T w K) := by
 have hargs : ∀ (l : List Operand), RelL Z ρ (l.map evA) (l.map evV) := fun l => ⟨by simp, fun k x y hx hy => by
  rw [List.getElem?_map] at hx hy
  cases hk : l[k]? with
  | none => rw [hk] at hx; cases hx
  | some o => rw [hk] at hx hy; cases hx; cases hy; exact he o⟩
 unfold opA at h
 split at h
 . rename_i e
   obtain ⟨z, hz, hk⟩ := getO_elim h
   have hr : (Instr.alloc e true (.tuple #[])).run P w = .ok (.pointer (some ⟨w.heap.size, 0, none⟩)) (w.alloc (.cells z.cells e)) := by
    unfold tzr at hz
    cases hi : P.info? e with
    | none => rw [hi] at hz; cases hz
    | some i =>
      rw [hi] at hz
      have hz' : i.zero = some z := hz
      simp [Instr.alloc, zeroValue, typeInfo, hi, hz', newVar, newRow]
   obtain ⟨k1, k2⟩ := hs.alloc e (RelL.ps z.cells.toList)
   rw [Array.toArray_toList] at k1 k2
   exact ⟨_, _, hr, Z, _, _, _, _, k1, k2, ptr_new hs _ rfl 0, hk⟩
 . rename_i e x
   obtain ⟨cs, hc, hk⟩ := getO_elim h
   have hr : (Instr.box e (evV x)).run P w = .ok (.pointer (some ⟨w.heap.size, 0, none⟩)) (w.alloc (.cells (evV x).cells e)) := by simp [Instr.box, newVar, newRow]
   obtain ⟨k1, k2⟩ := hs.alloc e ((he x).known hc)
   rw [Array.toArray_toList] at k1 k2
   exact ⟨_, _, hr, Z, _, _, _, _, k1, k2, ptr_new hs _ rfl 0, hk⟩
 . exact storeA_sound hs (he _) (he _) h
 . exact callA_sound hG hs (he _) (hargs _) h
 . rename_i args ts
   split at h
   . rename_i x y t t' hx ht
     have : ts = #[t, t'] := by cases ts; simp_all
     subst this
     simp only [opV, valV, builtinV, hx, List.map_cons, List.map_nil]
     split at h
     . rename_i e; subst e; exact appA_sound hs (he _) (he _) h
     . exact appS_sound hs (he _) (he _) h
   . exact h.elim
 . rename_i e k ps
   have := blsA_sound hs (RelP.map he ps.toList) h
   simp only [opV, valV]
   have e2 : (ps.toList.map fun p => (p.1, evV p.2)).toArray = ps.map fun (i, x) => (i, evV x) := by rw [<- Array.toList_map]
   rwa [e2] at this
 . rename_i e ps
   have := bldA_sound (I := fun _ => True) (RelP.map he ps.toList) h
   have e2 : (ps.toList.map fun p => (p.1, evV p.2)).toArray = ps.map fun (i, x) => (i, evV x) := by rw [<- Array.toList_map]
   rw [e2] at this
   obtain ⟨v, h1, a, h4, h5⟩ := this
   exact ⟨v, w, h1 w trivial, Z, ρ, T, [], a, hs, Ext.refl rfl, h4, h5⟩
 . exact mksA_sound hs (he _) (he _) h
 . rename_i args ts
   split at h
   . rename_i x y hx
     simp only [opV, valV, builtinV, hx, List.map_cons, List.map_nil]
     exact cpyA_sound hs (he _) (he _) h
   . exact h.elim
 . simp only [opV, valV]; exact cvoA_sound hs (he _) h
 . rename_i t r
   refine mkmA_sound hs ?_ ?_ h
   . intro a ha; obtain ⟨y, rfl, rfl⟩ := getO_map a ha; exact ⟨_, rfl, he _⟩
   . intro e; cases r <;> first | rfl | cases e
 . exact mupA_sound hs (he _) (he _) (he _) h
 . exact mupA_sound hs (he _) (he _) (he _) h
 . exact menA_sound hs (he _) (he _) h
 . exact estA_sound hs (he _) (he _) (he _) h
 . rename_i args ts
   split at h
   . rename_i x y t rest hx ht
     simp only [opV, valV, builtinV, hx, List.map_cons, List.map_nil]
     exact mdlA_sound hs (he _) (he _) (by rw [<- Array.getElem?_toList, ht]; rfl) h
   . exact h.elim
 . refine valV_mono (rdA_sound hs he h) (fun _ _ h => h.elim) (fun s ⟨v, h1, a, h4, h5⟩ => ?_) fun v ⟨a, h1, h2⟩ => ?_
   . exact ⟨v, w, h1 w (agr_self hs), Z, ρ, T, [], a, hs, Ext.refl rfl, h4, h5⟩
   . exact ⟨Z, ρ, T, [], a, hs, Ext.refl rfl, h1, h2⟩
theorem rdF_sound {evA : Operand -> AV} {evV : Operand -> Value} {o : Op} {ty : TypeId} {K : AV -> Prop} (hs : St Z ρ T w) (he : ∀ x, Rel Z ρ (evA x) (evV x)) (h : rdF P evA o ty T K) :
 floatV P evV o ty (Agr Z ρ T w) (Lft Z ρ K) := by
 unfold rdF at h
 split at h
 . rename_i e ps
   have := bldA_sound (I := Agr Z ρ T w) (RelP.map he ps.toList) h
   have e2 : (ps.toList.map fun p => (p.1, evV p.2)).toArray = ps.map fun (i, x) => (i, evV x) := by rw [<- Array.toList_map]
   rw [e2] at this
   exact this
 . exact rdA_sound hs he h
end
end Go.E
namespace Go.E
def lkA : List (Nat × AV) -> Nat -> AV
 | [], _ => .any
 | (s, v) :: r, t => if t = s then v else lkA r t
def evA (G : Nat -> AV) (n : Nat) (loc : List AV) (tmp : List (Nat × AV)) : Operand -> AV
 | .tmp t => if t < n then loc.getD t .any else lkA tmp t
 | .const v => .p v
 | .global g => G g
 | .func f => .p (.func (.func f) #[] #[])
def moved : Eff -> Nat -> Bool
 | [], _ => false
 | (j, b) :: es, i => (b && decide (i = j)) || moved es i
def still : Eff -> Bool
 | [] => true
 | (_, b) :: es => !b && still es
def slots (es : Eff) (l : List AV) : List AV := match still es with
 | true => l
 | false => l.map (AV.wo (moved es))
def slotsT (es : Eff) (l : List (Nat × AV)) : List (Nat × AV) := match still es with
 | true => l
 | false => l.map fun p => (p.1, p.2.wo (moved es))
def rec1 (n i : Nat) (b : Bool) (E : Eff) : Eff := if i < n then (i, b) :: E else E
def recE (n : Nat) : Eff -> Eff -> Eff
 | [], E => E
 | (i, b) :: es, E => rec1 n i b (recE n es E)
abbrev AKont := List AV -> List AV -> List (Nat × AV) -> Tbl -> Eff -> Prop
def putA (n : Nat) (d : Option Tmp) (v : AV) (loc : List AV) (tmp : List (Nat × AV)) (K : List AV -> List (Nat × AV) -> Prop) (_ : Tag K := .mk) : Prop :=
 match d with
 | none => K loc tmp
 | some d => if d < n then K (loc.set d v) tmp else K loc ((d, v) :: tmp)
def gvaloA (o : Option Oper) (look : Operand -> AV) : AV :=
 match o with
 | some o => (match o.dst with | some t => look (.tmp t) | none => .p undef)
 | none => .p undef
def grdA (ops : List Oper) (o : Oper) (look : Operand -> AV) (A B : Prop) (_ : Tag A := .mk) (_ : Tag B := .mk) : Prop :=
 match o.guard with
 | none => A
 | some (j, want) => isP (gvaloA ops[j]? look) fun v => GuardP v want A B
def opsA (P : Program) (G : Nat -> AV) (N n : Nat) (ops : List Oper) : List AV -> List Oper -> List AV -> List (Nat × AV) -> Tbl -> Eff -> (K : AKont) -> (_ : Tag K := .mk) -> Prop
 | ds, [], loc, tmp, T, E, K, _ => K ds loc tmp T E
 | ds, o :: r, loc, tmp, T, E, K, _ =>
   grdA ops o (evA G n loc tmp)
    (opA P G (evA G n loc tmp) o.op o.type T fun v T' es => putA n o.dst v (slots es loc) (slotsT es tmp) fun loc tmp => opsA P G N n ops (slots es ds) r loc tmp T' (recE N es E) K)
    (putA n o.dst (.p undef) loc tmp fun loc tmp => opsA P G N n ops ds r loc tmp T E K)
structure Frm (G : Nat -> AV) (Z0 : Heap) (ρ0 : List BI) (T0 : Tbl) (w0 : World) (Z : Heap) (ρ : List BI) (T : Tbl) (w : World) (E : Eff) : Prop where
 g : GOK G Z
 st : St Z ρ T w
 ext : Ext Z0 ρ0 T0 w0 Z ρ T w E
inductive RelT (Z : Heap) (ρ : List BI) : List (Nat × AV) -> List (Nat × Value) -> Prop
 | nil : RelT Z ρ [] []
 | cons {t : Nat} {a : AV} {v : Value} {r : List (Nat × AV)} {s : List (Nat × Value)} (h : Rel Z ρ a v) (hs : RelT Z ρ r s) : RelT Z ρ ((t, a) :: r) ((t, v) :: s)
theorem RelT.lk {Z : Heap} {ρ : List BI} {tmp : List (Nat × AV)} {tv : List (Nat × Value)} (h : RelT Z ρ tmp tv) (base : Nat -> Value) (t : Nat) : Rel Z ρ (lkA tmp t) (Go.E.lk base tv t) := by
 induction h with
 | nil => exact .any _
 | cons h hs ih =>
   simp only [lkA, Go.E.lk]
   split
   . exact h
   . exact ih
theorem moved_spec {es : Eff} {i : Nat} : moved es i = true ↔ (i, true) ∈ es := by
 induction es with
 | nil => simp [moved]
 | cons e es ih =>
   obtain ⟨j, b⟩ := e
   cases b <;> simp [moved, ih]
theorem still_spec {es : Eff} (h : still es = true) (i : Nat) : moved es i = false := by
 induction es with
 | nil => rfl
 | cons e es ih =>
   obtain ⟨j, b⟩ := e
   simp only [still, Bool.and_eq_true, Bool.not_eq_true'] at h
   simp [moved, h.1, ih h.2]
theorem recE_mem {n : Nat} {es E : Eff} {x : Nat × Bool} : x ∈ recE n es E ↔ (x ∈ es /\ x.1 < n) ∨ x ∈ E := by
 induction es with
 | nil => simp [recE]
 | cons e es ih =>
   obtain ⟨j, b⟩ := e
   simp only [recE, rec1]
   split
   . simp only [List.mem_cons, ih]
     constructor
     . rintro (rfl | h | h)
       . exact .inl ⟨.inl rfl, by assumption⟩
       . exact .inl ⟨.inr h.1, h.2⟩
       . exact .inr h
     . rintro (⟨rfl | h, h2⟩ | h)
       . exact .inl rfl
       . exact .inr (.inl ⟨h, h2⟩)
       . exact .inr (.inr h)
   . simp only [List.mem_cons, ih]
     constructor
     . rintro (h | h)
       . exact .inl ⟨.inr h.1, h.2⟩
       . exact .inr h
     . rintro (⟨rfl | h, h2⟩ | h)
       . exact absurd h2 (by assumption)
       . exact .inl ⟨h, h2⟩
       . exact .inr h
section
variable {P : Program} {G : Nat -> AV} {Z Z' Z0 : Heap} {ρ ρ' ρ0 : List BI} {T T' T0 : Tbl} {w w' w0 : World} {a b : AV} {u v : Value} {K : AV -> Tbl -> Eff -> Prop} {cs : List AV} {es E : Eff}
theorem GOK.mono (h : GOK G Z) (hle : Heap.le Z Z') : GOK G Z' := fun g => (h g).mono hle (by simp)
theorem Ext.kept (h : Ext Z ρ T w Z' ρ' T' w' es) : Kept (moved es) ρ ρ' := fun i x hi hx => h.place i x hx fun hm => by rw [moved_spec.2 hm] at hi; cases hi
theorem Rel.step (h : Rel Z ρ a v) (hx : Ext Z ρ T w Z' ρ' T' w' es) : Rel Z' ρ' (a.wo (moved es)) v := (h.wo (ρ' := ρ') hx.kept).mono hx.le (fun _ _ h => h)
theorem Rel.stay (h : Rel Z ρ a v) (hx : Ext Z ρ T w Z' ρ' T' w' es) (hs : still es = true) : Rel Z' ρ' a v := h.mono hx.le fun i x hi => hx.place i x hi fun hm => by
 have := still_spec hs i
 rw [moved_spec.2 hm] at this; cases this
theorem slots_rel {vs : List Value} (h : RelL Z ρ cs vs) (hx : Ext Z ρ T w Z' ρ' T' w' es) : RelL Z' ρ' (slots es cs) vs := by
 unfold slots
 split
 . exact ⟨h.1, fun k a v ha hv => (h.2 k a v ha hv).stay hx (by assumption)⟩
 . exact (h.wo (ρ' := ρ') hx.kept).mono hx.le (fun _ _ h => h)
theorem slotsT_rel {tmp : List (Nat × AV)} {tv : List (Nat × Value)} (h : RelT Z ρ tmp tv) (hx : Ext Z ρ T w Z' ρ' T' w' es) : RelT Z' ρ' (slotsT es tmp) tv := by
 unfold slotsT
 split
 . induction h with
   | nil => exact .nil
   | cons h hs ih => exact .cons (h.stay hx (by assumption)) ih
 . induction h with
   | nil => exact .nil
   | cons h hs ih => exact .cons (h.step hx) ih
theorem Frm.step (h : Frm G Z0 ρ0 T0 w0 Z ρ T w E) (hs : St Z' ρ' T' w') (hx : Ext Z ρ T w Z' ρ' T' w' es) : Frm G Z0 ρ0 T0 w0 Z' ρ' T' w' (recE ρ0.length es E) :=
 ⟨h.g.mono hx.le, hs, (h.ext.trans hx).more fun x hx' hl => by
  rw [recE_mem]
  rcases List.mem_append.1 hx' with h | h
  . exact .inl ⟨h, hl⟩
  . exact .inr h⟩
theorem evA_rel {n : Nat} {loc : List AV} {tmp : List (Nat × AV)} {vs : List Value} {tv : List (Nat × Value)} {base : Nat -> Value} (hG : GOK G Z) (hl : RelL Z ρ loc vs) (ht : RelT Z ρ tmp tv) (x : Operand) : Rel Z ρ (evA G n loc tmp x) (ev n base vs tv x) := by
 cases x with
 | tmp t =>
   simp only [evA, ev]
   split
   . by_cases hk : t < loc.length
     . have h2 : t < vs.length := by rw [<- hl.1]; exact hk
       have := hl.2 t loc[t] vs[t] (by simp [hk]) (by simp [h2])
       simpa [List.getD, hk, h2] using this
     . rw [show loc.getD t .any = .any by rw [List.getD_eq_getElem?_getD, List.getElem?_eq_none (Nat.le_of_not_lt hk)]; rfl]; exact .any _
   . exact ht.lk base t
 | const v => exact .p v
 | global g => exact (hG g).mono (Heap.le_refl _) (by simp)
 | func f => exact .p _
def LK (G : Nat -> AV) (Z0 : Heap) (ρ0 : List BI) (T0 : Tbl) (w0 : World) (K : AKont) : Kont := fun dv lv tv w =>
 ∃ (Z : Heap) (ρ : List BI) (T : Tbl) (E : Eff) (ds loc : List AV) (tmp : List (Nat × AV)), Frm G Z0 ρ0 T0 w0 Z ρ T w E /\ RelL Z ρ ds (dv.map fun b => .pointer (some ⟨b, 0, none⟩)) /\ RelL Z ρ loc lv /\ RelT Z ρ tmp tv /\ K ds loc tmp T E
structure At (Z : Heap) (ρ : List BI) (ds loc : List AV) (tmp : List (Nat × AV)) (dv : List Nat) (lv : List Value) (tv : List (Nat × Value)) : Prop where
 ds : RelL Z ρ ds (dv.map fun b => .pointer (some ⟨b, 0, none⟩))
 loc : RelL Z ρ loc lv
 tmp : RelT Z ρ tmp tv
theorem At.step {ds loc : List AV} {tmp : List (Nat × AV)} {dv : List Nat} {lv : List Value} {tv : List (Nat × Value)} (h : At Z ρ ds loc tmp dv lv tv) (hx : Ext Z ρ T w Z' ρ' T' w' es) : At Z' ρ' (slots es ds) (slots es loc) (slotsT es tmp) dv lv tv :=
 ⟨slots_rel h.ds hx, slots_rel h.loc hx, slotsT_rel h.tmp hx⟩
theorem putA_sound {n : Nat} {d : Option Tmp} {ds loc : List AV} {tmp : List (Nat × AV)} {dv : List Nat} {lv : List Value} {tv : List (Nat × Value)} {KA : List AV -> List (Nat × AV) -> Prop} (h : putA n d a loc tmp KA) (hr : Rel Z ρ a v) (hat : At Z ρ ds loc tmp dv lv tv)
 {KV : List Value -> List (Nat × Value) -> Prop} (hk : ∀ loc tmp lv tv, KA loc tmp -> At Z ρ ds loc tmp dv lv tv -> KV lv tv) : putK n d v lv tv KV := by
 cases d with
 | none => exact hk _ _ _ _ h hat
 | some d =>
   simp only [putA, putK] at h ⊢
   split
   . rename_i hd; rw [if_pos hd] at h; exact hk _ _ _ _ h ⟨hat.ds, hat.loc.set hr d, hat.tmp⟩
   . rename_i hd; rw [if_neg hd] at h; exact hk _ _ _ _ h ⟨hat.ds, hat.loc, .cons hr hat.tmp⟩
theorem grdA_sound {ops : List Oper} {o : Oper} {lookA : Operand -> AV} {lookV : Operand -> Value} {A B A' B' : Prop} (h : grdA ops o lookA A B) (he : ∀ x, Rel Z ρ (lookA x) (lookV x)) (ha : A -> A') (hb : B -> B') : grdV ops o lookV A' B' := by
 unfold grdA at h
 unfold grdV
 cases hg : o.guard with
 | none => rw [hg] at h; exact ha h
 | some jw =>
   obtain ⟨j, want⟩ := jw
   rw [hg] at h
   simp only at h ⊢
   have hr : Rel Z ρ (gvaloA ops[j]? lookA) (gval ops j lookV) := by
    unfold gvaloA gval gvalo
    cases ops[j]? with
    | none => exact .p _
    | some o' => cases hd : o'.dst with
      | none => simp only [hd]; exact .p _
      | some t => simp only [hd]; exact he _
   have h' := isP_elim h hr
   exact ⟨fun e => ha (h'.1 e), fun e => hb (h'.2 e)⟩
theorem callV_mono {f : Value} {args : List Value} {K K' : Value -> World -> Prop} (h : callV P f args w K) (hk : ∀ v w, K v w -> K' v w) : callV P f args w K' := by
 cases f with
 | func fn first cap =>
   cases fn with
   | func g =>
     simp only [callV] at h ⊢
     cases he : entered P g with
     | true => rw [he] at h; exact Ret.mono h hk
     | false => rw [he] at h; obtain ⟨v, w', h1, h2⟩ := h; exact ⟨v, w', h1, hk _ _ h2⟩
   | yield l => exact Yld.mono h hk
   | _ => exact h.elim
 | _ => exact h.elim
theorem opV_mono {evV : Operand -> Value} {o : Op} {ty : TypeId} {K K' : Value -> World -> Prop} (h : opV P evV o ty w K) (hk : ∀ v w, K v w -> K' v w) : opV P evV o ty w K' :=
 valV_mono h (fun _ _ h => callV_mono h hk) (fun s ⟨v, w', h1, h2⟩ => ⟨v, w', h1, hk _ _ h2⟩) (fun v h => hk _ _ h)
theorem opsA_sound {n : Nat} {base : Nat -> Value} {ops : List Oper} {K : AKont} : ∀ (r : List Oper) (ds loc : List AV) (tmp : List (Nat × AV)) (dv : List Nat) (lv : List Value) (tv : List (Nat × Value)) (Z : Heap) (ρ : List BI) (T : Tbl) (w : World) (E : Eff),
 opsA P G ρ0.length n ops ds r loc tmp T E K -> Frm G Z0 ρ0 T0 w0 Z ρ T w E -> At Z ρ ds loc tmp dv lv tv -> opsV P n base ops dv r lv tv w (LK G Z0 ρ0 T0 w0 K)
 | [], ds, loc, tmp, dv, lv, tv, Z, ρ, T, w, E, h, hf, ha => ⟨Z, ρ, T, E, ds, loc, tmp, hf, ha.ds, ha.loc, ha.tmp, h⟩
 | o :: r, ds, loc, tmp, dv, lv, tv, Z, ρ, T, w, E, h, hf, ha => by
   simp only [opsA] at h
   simp only [opsV]
   have he := evA_rel (n := n) (base := base) hf.g ha.loc ha.tmp
   refine grdA_sound h he (fun h => ?_) (fun h => ?_)
   . refine opV_mono (opA_sound hf.g hf.st he h) fun v w' h2 => ?_
     obtain ⟨Z', ρ', T', es, a, k1, k2, k3, k4⟩ := h2
     exact putA_sound k4 k3 (ha.step k2) fun loc tmp lv tv hk hat => opsA_sound r _ _ _ _ _ _ _ _ _ _ _ hk (hf.step k1 k2) hat
   . exact putA_sound h (.p _) ha fun loc tmp lv tv hk hat => opsA_sound r _ _ _ _ _ _ _ _ _ _ _ hk hf hat
def SemA (P : Program) (G : Nat -> AV) (N : Nat) (ro : Option Nat) (n m : Nat) (c : Code) (ds loc : List AV) (tmp : List (Nat × AV)) (T : Tbl) (E : Eff) (Nk : AKont) (X : Nat -> AKont) (R : AKont) (_ : Tag c := .mk) (_ : Tag Nk := .mk) (_ : Tag X := .mk) (_ : Tag R := .mk) : Prop :=
 ∀ (Z0 : Heap) (ρ0 : List BI) (T0 : Tbl) (w0 : World) (Z : Heap) (ρ : List BI) (w : World) (dv : List Nat) (lv : List Value) (tv : List (Nat × Value)), ρ0.length = N -> Frm G Z0 ρ0 T0 w0 Z ρ T w E -> At Z ρ ds loc tmp dv lv tv ->
  SemV P ro n m c dv lv tv w (mkQ (LK G Z0 ρ0 T0 w0 Nk) (fun i => LK G Z0 ρ0 T0 w0 (X i)) (LK G Z0 ρ0 T0 w0 R))
def codeA (P : Program) (G : Nat -> AV) (N : Nat) (ro : Option Nat) (n m : Nat) : Code -> List AV -> List AV -> List (Nat × AV) -> Tbl -> Eff -> (Nk : AKont) -> (X : Nat -> AKont) -> (R : AKont) -> (_ : Tag Nk := .mk) -> (_ : Tag X := .mk) -> (_ : Tag R := .mk) -> Prop
 | .skip, ds, loc, tmp, T, E, Nk, _, _, _, _, _ => Nk ds loc tmp T E
 | .region id ops draw, ds, loc, _, T, E, Nk, X, R, _, _, _ =>
   if draw then SemA P G N ro n m (.region id ops true) ds loc [] T E Nk X R else opsA P G N n ops.toList ds ops.toList loc [] T E Nk
 | .seq a b, ds, loc, tmp, T, E, Nk, X, R, _, _, _ => codeA P G N ro n m a ds loc tmp T E (fun ds loc tmp T E => codeA P G N ro n m b ds loc tmp T E Nk X R) X R
 | .cond c t e, ds, loc, tmp, T, E, Nk, X, R, _, _, _ => bpA (evA G n loc tmp c) (codeA P G N ro n m t ds loc tmp T E Nk X R) (codeA P G N ro n m e ds loc tmp T E Nk X R)
 | .block i c, ds, loc, tmp, T, E, Nk, X, R, _, _, _ => codeA P G N ro n m c ds loc tmp T E Nk (fun j => if j = i then Nk else X j) R
 | .loop c, ds, loc, _, T, E, Nk, X, R, _, _, _ => SemA P G N ro n m (.loop c) ds loc [] T E Nk X R
 | .exit i, ds, loc, tmp, T, E, _, X, _, _, _, _ => X i ds loc tmp T E
 | .ret, ds, loc, tmp, T, E, _, _, R, _, _, _ => R ds loc tmp T E
 | .rangeFunc f ps a b, ds, loc, tmp, T, E, Nk, X, R, _, _, _ => SemA P G N ro n m (.rangeFunc f ps a b) ds loc tmp T E Nk X R
 | .scope b, ds, loc, tmp, T, E, Nk, X, R, _, _, _ => codeA P G N ro n m b ds loc tmp T E Nk X R
 | .label _, ds, loc, tmp, T, E, Nk, _, _, _, _, _ => Nk ds loc tmp T E
 | .goto l, ds, loc, tmp, T, E, Nk, X, R, _, _, _ => SemA P G N ro n m (.goto l) ds loc tmp T E Nk X R
 | .refuse y, ds, loc, tmp, T, E, Nk, X, R, _, _, _ => SemA P G N ro n m (.refuse y) ds loc tmp T E Nk X R
theorem At.clear {ds loc : List AV} {tmp : List (Nat × AV)} {dv : List Nat} {lv : List Value} {tv : List (Nat × Value)} (h : At Z ρ ds loc tmp dv lv tv) : At Z ρ ds loc [] dv lv [] := ⟨h.ds, h.loc, .nil⟩
theorem codeA_sound {N n m : Nat} {ro : Option Nat} : ∀ (c : Code) (ds loc : List AV) (tmp : List (Nat × AV)) (T : Tbl) (E : Eff) (Nk : AKont) (X : Nat -> AKont) (R : AKont), codeA P G N ro n m c ds loc tmp T E Nk X R -> codeOK m c = true -> SemA P G N ro n m c ds loc tmp T E Nk X R
 | .skip, ds, loc, tmp, T, E, Nk, X, R, h, _ => fun Z0 ρ0 T0 w0 Z ρ w dv lv tv hN hf ha a haa Qs hQs => wpIn_skip (hQs .normal _ _ _ _ _ haa ⟨Z, ρ, T, E, ds, loc, tmp, hf, ha.ds, ha.loc, ha.tmp, h⟩)
 | .region id ops draw, ds, loc, tmp, T, E, Nk, X, R, h, hok => fun Z0 ρ0 T0 w0 Z ρ w dv lv tv hN hf ha => by
   simp only [codeA] at h
   cases draw with
   | true => exact SemV.cleared (h Z0 ρ0 T0 w0 Z ρ w dv lv [] hN hf ha.clear)
   | false =>
     refine codeV_sem _ _ _ _ _ _ _ _ ?_ hok
     simp only [Bool.false_eq_true, if_false] at h
     subst hN
     simp only [codeV, Bool.false_eq_true, if_false]
     exact fun base => opsA_sound _ _ _ _ _ _ _ _ _ _ _ _ h hf ha.clear
 | .seq a b, ds, loc, tmp, T, E, Nk, X, R, h, hok => fun Z0 ρ0 T0 w0 Z ρ w dv lv tv hN hf ha => by
   simp only [codeOK, Bool.and_eq_true] at hok
   exact SemV.seq (codeA_sound a ds loc tmp T E _ _ _ h hok.1 Z0 ρ0 T0 w0 Z ρ w dv lv tv hN hf ha) fun dv lv tv w ⟨Z, ρ, T, E, ds, loc, tmp, hf, h1, h2, h3, hk⟩ =>
    codeA_sound b ds loc tmp T E Nk X R hk hok.2 Z0 ρ0 T0 w0 Z ρ w dv lv tv hN hf ⟨h1, h2, h3⟩
 | .cond c t e, ds, loc, tmp, T, E, Nk, X, R, h, hok => fun Z0 ρ0 T0 w0 Z ρ w dv lv tv hN hf ha => by
   simp only [codeOK, Bool.and_eq_true] at hok
   simp only [codeA, bpA] at h
   split at h
   . rename_i v hv
     obtain ⟨h1, h2, x, hx⟩ := h
     subst hx
     intro a haa Qs hQs
     obtain ⟨base, hb⟩ := haa.base
     have hr := evA_rel (base := base) (n := n) hf.g ha.loc ha.tmp c
     rw [hv] at hr
     have hc : a.eval c = .bool x := by rw [hb.ev]; exact hr.p_inv
     cases x with
     | true => exact wpIn_cond hc (codeA_sound t ds loc tmp T E Nk X R (h1 rfl) hok.1 Z0 ρ0 T0 w0 Z ρ w dv lv tv hN hf ha a haa Qs hQs)
     | false => exact wpIn_cond hc (codeA_sound e ds loc tmp T E Nk X R (h2 rfl) hok.2 Z0 ρ0 T0 w0 Z ρ w dv lv tv hN hf ha a haa Qs hQs)
   . exact h.elim
 | .block i c, ds, loc, tmp, T, E, Nk, X, R, h, hok => fun Z0 ρ0 T0 w0 Z ρ w dv lv tv hN hf ha => by
   refine SemV.block ((codeA_sound c ds loc tmp T E _ _ _ h hok Z0 ρ0 T0 w0 Z ρ w dv lv tv hN hf ha).mono fun e dv lv tv w hq => ?_)
   cases e with
   | exit j =>
     simp only [mkQ] at hq ⊢
     by_cases hj : j = i
     . simp only [hj, if_true] at hq ⊢; exact hq
     . simp only [hj, if_false] at hq ⊢; exact hq
   | _ => exact hq
 | .loop c, ds, loc, tmp, T, E, Nk, X, R, h, _ => fun Z0 ρ0 T0 w0 Z ρ w dv lv tv hN hf ha => SemV.cleared (h Z0 ρ0 T0 w0 Z ρ w dv lv [] hN hf ha.clear)
 | .exit i, ds, loc, tmp, T, E, Nk, X, R, h, _ => fun Z0 ρ0 T0 w0 Z ρ w dv lv tv hN hf ha a haa Qs hQs => wpIn_exit (hQs (.exit i) _ _ _ _ _ haa ⟨Z, ρ, T, E, ds, loc, tmp, hf, ha.ds, ha.loc, ha.tmp, h⟩)
 | .ret, ds, loc, tmp, T, E, Nk, X, R, h, _ => fun Z0 ρ0 T0 w0 Z ρ w dv lv tv hN hf ha a haa Qs hQs => wpIn_ret (hQs .ret _ _ _ _ _ haa ⟨Z, ρ, T, E, ds, loc, tmp, hf, ha.ds, ha.loc, ha.tmp, h⟩)
 | .rangeFunc f ps a b, ds, loc, tmp, T, E, Nk, X, R, h, _ => h
 | .scope c, ds, loc, tmp, T, E, Nk, X, R, h, hok => fun Z0 ρ0 T0 w0 Z ρ w dv lv tv hN hf ha => SemV.scope (codeA_sound c ds loc tmp T E Nk X R h hok Z0 ρ0 T0 w0 Z ρ w dv lv tv hN hf ha)
 | .label _, ds, loc, tmp, T, E, Nk, X, R, h, _ => fun Z0 ρ0 T0 w0 Z ρ w dv lv tv hN hf ha a haa Qs hQs => wpIn_label (hQs .normal _ _ _ _ _ haa ⟨Z, ρ, T, E, ds, loc, tmp, hf, ha.ds, ha.loc, ha.tmp, h⟩)
 | .goto l, ds, loc, tmp, T, E, Nk, X, R, h, _ => h
 | .refuse y, ds, loc, tmp, T, E, Nk, X, R, h, _ => h
end
end Go.E
namespace Go.E
section
variable {P : Program} {G : Nat -> AV} {Z Z' Z0 : Heap} {ρ ρ' ρ0 : List BI} {T T' T0 : Tbl} {w w' w0 : World} {a b : AV} {u v : Value} {K : AV -> Tbl -> Eff -> Prop} {cs : List AV} {es E : Eff}
variable {N n m : Nat} {ro : Option Nat} {ds loc : List AV} {tmp : List (Nat × AV)} {Nk R : AKont} {X : Nat -> AKont}
theorem Frm.more (h : Frm G Z0 ρ0 T0 w0 Z ρ T w E) {E' : Eff} (hE : ∀ x ∈ E, x ∈ E') : Frm G Z0 ρ0 T0 w0 Z ρ T w E' := ⟨h.g, h.st, h.ext.more fun x hx _ => hE x hx⟩
def Lc (n : Nat) : List (Nat × AV) -> List AV -> Prop
 | [], loc => loc.length = n
 | (i, a) :: r, loc => loc[i]? = some a /\ Lc n r loc
def look (i : Nat) (d : AV) : List (Nat × AV) -> AV
 | [] => d
 | (j, a) :: r => if i = j then a else look i d r
def mkA (g : Nat -> AV) (l : List (Nat × AV)) : Nat -> Nat -> List AV
 | _, 0 => []
 | i, n + 1 => look i (g i) l :: mkA g l (i + 1) n
theorem mkA_get (g : Nat -> AV) (l : List (Nat × AV)) : ∀ (n i k : Nat), k < n -> (mkA g l i n)[k]? = some (look (i + k) (g (i + k)) l)
 | 0, _, _, h => absurd h (Nat.not_lt_zero _)
 | n + 1, i, 0, _ => by simp [mkA]
 | n + 1, i, k + 1, h => by
   rw [mkA, List.getElem?_cons_succ, mkA_get g l n (i + 1) k (by omega), show i + 1 + k = i + (k + 1) by omega]
theorem mkA_len (g : Nat -> AV) (l : List (Nat × AV)) : ∀ (n i : Nat), (mkA g l i n).length = n
 | 0, _ => rfl
 | n + 1, i => by rw [mkA, List.length_cons, mkA_len g l n]
theorem Lc.len {n : Nat} : ∀ {l : List (Nat × AV)} {loc : List AV}, Lc n l loc -> loc.length = n
 | [], _, h => h
 | (_, _) :: _, _, h => Lc.len h.2
theorem Lc.get {n : Nat} {loc : List AV} : ∀ {l : List (Nat × AV)}, Lc n l loc -> ∀ k, k < n -> loc[k]? = some (look k (loc.getD k .any) l)
 | [], h, k, hk => by
   have : k < loc.length := by rw [h]; exact hk
   simp [look, List.getD, this]
 | (j, a) :: r, h, k, hk => by
   rw [look]
   split
   . rename_i e; subst e; exact h.1
   . exact h.2.get k hk
theorem Lc.elim {n : Nat} {l : List (Nat × AV)} {loc : List AV} (h : Lc n l loc) : ∃ g, loc = mkA g l 0 n := by
 refine ⟨fun i => loc.getD i .any, List.ext_getElem? fun k => ?_⟩
 by_cases hk : k < n
 . rw [h.get k hk, mkA_get _ _ _ _ _ hk, Nat.zero_add]
 . rw [List.getElem?_eq_none (by have := h.len; omega), List.getElem?_eq_none (by rw [mkA_len]; omega)]
theorem SemA.loopL {σ : Type} {c : Code} (L : σ -> List (Nat × AV)) (Tb : σ -> Tbl) (Q : σ -> Prop) (μ : σ -> Nat) (s0 : σ) (Ei : Eff) (hok : codeOK m c = true) (hQ : Q s0) (hL : Lc n (L s0) loc) (hT : T = Tb s0) (hE : ∀ x ∈ E, x ∈ Ei)
 (round : ∀ s g, Q s -> codeA P G N ro n m c ds (mkA g (L s) 0 n) [] (Tb s) Ei (fun ds' loc' _ T' E' => ds' = ds /\ (∃ s', Q s' /\ μ s' < μ s /\ Lc n (L s') loc' /\ T' = Tb s') /\ ∀ x ∈ E', x ∈ Ei) X R) : SemA P G N ro n m (.loop c) ds loc [] T E Nk X R := by
 intro Z0 ρ0 T0 w0 Z ρ w dv lv tv hN hf ha a haa Qs hQs
 refine wpIn_loop_ghost (fun k a w => ∃ (Z : Heap) (ρ : List BI) (s : σ) (loc : List AV) (dv : List Nat) (lv : List Value) (tv : List (Nat × Value)), Fits' n m dv lv tv a /\ Frm G Z0 ρ0 T0 w0 Z ρ (Tb s) w Ei /\ At Z ρ ds loc [] dv lv [] /\ (Q s /\ Lc n (L s) loc) /\ μ s = k)
  (μ s0) ⟨Z, ρ, s0, loc, dv, lv, tv, haa, hT ▸ hf.more hE, ha.clear, ⟨hQ, hL⟩, rfl⟩ ?_
 rintro k a w ⟨Z, ρ, s, loc, dv, lv, tv, haa, hf, hat, ⟨hI, hL⟩, rfl⟩
 obtain ⟨g, rfl⟩ := hL.elim
 have hr := codeA_sound c ds _ [] (Tb s) Ei _ _ _ (round s g hI) hok Z0 ρ0 T0 w0 Z ρ w dv lv [] hN hf hat
 refine hr a haa.cleared _ fun e dv' lv' tv' w' a' haa' hq => ?_
 cases e with
 | normal =>
   obtain ⟨Z', ρ', T', E', ds', loc', tmp', g1, g2, g3, g4, rfl, ⟨s', h1, h2, h3, rfl⟩, g6⟩ := hq
   exact ⟨_, h2, Z', ρ', s', loc', dv', lv', tv', haa', g1.more g6, ⟨g2, g3, .nil⟩, ⟨h1, h3⟩, rfl⟩
 | exit i => exact hQs (.exit i) _ _ _ _ _ haa' hq
 | ret => exact hQs .ret _ _ _ _ _ haa' hq
 | _ => exact hq.elim
theorem SemA.view {c : Code} {loc' : List AV} {T' : Tbl} {ds' : List AV} {tmp' : List (Nat × AV)} (hv : ∀ (Z0 : Heap) (ρ0 : List BI) (T0 : Tbl) (w0 : World) (Z : Heap) (ρ : List BI) (w : World) (dv : List Nat) (lv : List Value) (tv : List (Nat × Value)), ρ0.length = N -> Frm G Z0 ρ0 T0 w0 Z ρ T w E -> At Z ρ ds loc tmp dv lv tv ->
 ∃ Z' ρ', Frm G Z0 ρ0 T0 w0 Z' ρ' T' w es /\ At Z' ρ' ds' loc' tmp' dv lv tv) (h : SemA P G N ro n m c ds' loc' tmp' T' es Nk X R) : SemA P G N ro n m c ds loc tmp T E Nk X R := by
 intro Z0 ρ0 T0 w0 Z ρ w dv lv tv hN hf ha
 obtain ⟨Z', ρ', h1, h2⟩ := hv Z0 ρ0 T0 w0 Z ρ w dv lv tv hN hf ha
 exact h Z0 ρ0 T0 w0 Z' ρ' w dv lv tv hN h1 h2
theorem AnyI.mono {ops : Array Oper} {Q : Exit -> Act -> World -> Prop} {cl : Nat} {I J : World -> Prop} (hIJ : ∀ w, I w -> J w) : ∀ (f : Nat) (listed : Array Bool) (a : Act) (w : World), AnyI ro P ops Q cl I f listed a w -> AnyI ro P ops Q cl J f listed a w
 | 0, _, _, _, h => ⟨fun hl => hIJ _ (h.1 hl), h.2⟩
 | f + 1, _, _, _, h => ⟨fun hl => hIJ _ (h.1 hl), h.2.1, fun i hi => wpOpIn_mono (fun a w => AnyI.mono hIJ f _ a w) (h.2.2 i hi)⟩
def waitsFor (ops : Array Oper) (i : Nat) : List Nat := ((List.range ops.size).foldl (fun S j => match ops[j]? with
 | none => S
 | some o => if o.after.any fun e => Region.binds .any e && (e.on == i || S.contains e.on) then j :: S else S) [])
def waitsOK (ops : Array Oper) (i : Nat) (S : List Nat) : Bool := S.all fun j => match ops[j]? with
 | none => true
 | some o => o.after.any fun e => Region.binds .any e && (e.on == i || S.contains e.on)
def blocks (ops : Array Oper) (cl i : Nat) (listed : Array Bool) : Bool :=
 let S := waitsFor ops i
 waitsOK ops i S && (S.contains cl || (match ops[cl]? with | none => true | some _ => false)) && !(listed.getD cl false) && S.all fun j => !(listed.getD j false)
def planOK3 (ops : Array Oper) (cl : Nat) (o : Option Nat) : List (Nat × Bool) -> Array Bool -> Bool
 | [], listed => (Region.ready .any ops listed).isEmpty
 | (i, fl) :: r, listed =>
   (if fl then (Region.ready .any ops listed).contains i && Region.free .any ops listed i && (cl != i && ((match ops[i]? with | none => false | some oi => pureOp oi.op) || blocks ops cl i listed))
    else Region.ready .any ops listed == [i] && (if r.isEmpty || some i == o then i == cl && decide (i < listed.size) else !(listed.getD cl false) && i != cl)) &&
   planOK3 ops cl o r (listed.setIfInBounds i true)
theorem AnyI.listed {ops : Array Oper} {Q : Exit -> Act -> World -> Prop} {cl : Nat} {I J : World -> Prop} : ∀ (f : Nat) (listed : Array Bool) (a : Act) (w : World), listed.getD cl false = true -> AnyI ro P ops Q cl I f listed a w -> AnyI ro P ops Q cl J f listed a w
 | 0, _, _, _, hl, h => ⟨fun h' => (by rw [hl] at h'; cases h'), h.2⟩
 | f + 1, listed, _, _, hl, h => ⟨fun h' => (by rw [hl] at h'; cases h'), h.2.1, fun i hi => wpOpIn_mono (fun a w => AnyI.listed f _ a w (by
  by_cases hic : i = cl
  . subst hic
    simp only [Array.getD_eq_getD_getElem?, Array.getElem?_setIfInBounds]
    by_cases hb : i < listed.size
    . simp [hb]
    . simp [hb] at hl
  . rw [getD_set_ne false hic]; exact hl)) (h.2.2 i hi)⟩
theorem AnyI_first2 {ops : Array Oper} {Q : Exit -> Act -> World -> Prop} {I J : World -> Prop} {cl i : Nat} {oi : Oper} {v : Value} (S : List Nat)
 (hcb : (∀ w, J w) ∨ ((∀ w, I w -> J w) /\ (cl ∈ S ∨ ops[cl]? = none) /\ ∀ j ∈ S, ∀ oj, ops[j]? = some oj -> ∃ e ∈ oj.after, Region.binds .any e = true /\ (e.on = i ∨ e.on ∈ S))) (hci : cl ≠ i) (hi : ops[i]? = some oi) (hsel : ∀ (j : Nat) (o : Oper) cs b, ops[j]? = some o -> o.op ≠ .select cs b) (hdef : ∀ (j : Nat) (o : Oper) c, ops[j]? = some o -> o.op ≠ .defer c)
 (hQ : ∀ c a w, Q (.panic c) (a.put oi.dst v) w -> Q (.panic c) a w) :
 ∀ (f : Nat) (listed : Array Bool) (a : Act) (w : World),
  (∀ j oj, ops[j]? = some oj -> j ≠ i -> listed.getD j true = false -> (∀ e ∈ oj.after, Region.binds .any e = true -> e.on ≠ i) -> oi.apart ops oj = true) ->
  ((∀ w, J w) ∨ (listed.getD cl false = false /\ ∀ k ∈ S, listed.getD k false = false)) -> i ∈ Region.ready .any ops listed -> GivesI P ops J oi v a -> AnyI ro P ops Q cl I f (listed.setIfInBounds i true) (a.put oi.dst v) w -> AnyI ro P ops Q cl I (f + 1) listed a w := by
 have hIJ : ∀ (listed : Array Bool) (w : World), ((∀ w, J w) ∨ (listed.getD cl false = false /\ ∀ k ∈ S, listed.getD k false = false)) -> (listed.getD cl false = false -> I w) -> J w := by
  intro listed w hc h
  rcases hc with h1 | h1
  . exact h1 w
  . rcases hcb with h2 | h2
    . exact h2 w
    . exact h2.1 w (h h1.1)
 intro f
 induction f with
 | zero =>
   intro listed a w _ hc hr hy H
   have hI : listed.getD cl false = false -> I w := fun hl => H.1 (by rw [getD_set_ne false (Ne.symm hci)]; exact hl)
   refine ⟨hI, fun h => (by rw [h] at hr; cases hr), fun j hj => ?_⟩
   by_cases hji : j = i
   . subst hji; exact hy.wpOp hi (hIJ _ w hc hI) H
   . have := ready_mono hj hji
     rw [H.2.1] at this
     cases this
 | succ f ih =>
   intro listed a w hfree hc hr hy H
   have hI : listed.getD cl false = false -> I w := fun hl => H.1 (by rw [getD_set_ne false (Ne.symm hci)]; exact hl)
   refine ⟨hI, fun h => (by rw [h] at hr; cases hr), fun j hj => ?_⟩
   by_cases hji : j = i
   . subst hji; exact hy.wpOp hi (hIJ _ w hc hI) H
   . obtain ⟨hjun, oj, hoj, hall⟩ := mem_ready.1 hj
     have hun : listed.getD i true = false := (mem_ready.1 hr).1
     have hlst : ∀ k, listed.getD k true = false -> ∀ e ∈ oj.after, Region.binds .any e = true -> e.on ≠ k := by
      intro k hun e he hb heq
      have h1 := hall e he hb
      rw [heq] at h1
      by_cases hl : k < listed.size
      . simp [hl] at h1 hun; rw [hun] at h1; cases h1
      . simp [Array.getElem?_eq_none (Nat.le_of_not_lt hl)] at h1
     have hlst2 : ∀ k, listed.getD k false = false -> ∀ e ∈ oj.after, Region.binds .any e = true -> e.on ≠ k := by
      intro k hun e he hb heq
      have h1 := hall e he hb
      rw [heq] at h1
      by_cases hl : k < listed.size
      . simp [hl] at h1 hun; rw [hun] at h1; cases h1
      . simp [Array.getElem?_eq_none (Nat.le_of_not_lt hl)] at h1
     have hnot := hlst i hun
     have h2 := wpOp_swap hoj (hfree j oj hoj hji hjun hnot) (fun cs b => hsel i oi cs b hi) (fun cs b => hsel j oj cs b hoj) (fun c => hdef j oj c hoj) hQ hy (H.2.2 j (ready_mono hj hji))
     have hc' : (∀ w, J w) ∨ ((listed.setIfInBounds j true).getD cl false = false /\ ∀ k ∈ S, (listed.setIfInBounds j true).getD k false = false) := by
      rcases hc with h1 | h1
      . exact .inl h1
      . rcases hcb with h3 | h3
        . exact .inl h3
        . have hjS : j ∉ S := by
           intro hjS
           obtain ⟨e, he, hb, heq | heq⟩ := h3.2.2 j hjS oj hoj
           . exact hnot e he hb heq
           . exact hlst2 _ (h1.2 _ heq) e he hb rfl
          refine .inr ⟨?_, fun k hk => ?_⟩
          . have hjc : j ≠ cl := by
             rintro rfl
             rcases h3.2.1 with h4 | h4
             . exact hjS h4
             . rw [h4] at hoj; cases hoj
            rw [getD_set_ne false hjc]; exact h1.1
          . have hjk : j ≠ k := by rintro rfl; exact hjS hk
            rw [getD_set_ne false hjk]; exact h1.2 k hk
     refine wpOpIn_mono (fun a' w' h3 => ih (listed.setIfInBounds j true) a' w' ?_ hc' (ready_mono hr (Ne.symm hji)) h3.1 ?_) h2
     . intro k ok hk hki hkun hno
       refine hfree k ok hk hki ?_ hno
       by_cases hjk : j = k
       . subst hjk; exact hjun
       . rw [getD_set_ne true hjk] at hkun; exact hkun
     . rw [Array.setIfInBounds_comm _ _ hji]
       exact h3.2
def planW (P : Program) (n : Nat) (base : Nat -> Value) (ops : List Oper) (cl : Option Nat) (I : World -> Prop) (ds : List Nat) : List (Nat × Bool) -> List Value -> List (Nat × Value) -> World -> (K : Kont) -> Prop
 | [], loc, tmp, w, K => K ds loc tmp w
 | (i, true) :: r, loc, tmp, w, K => planO n base ops ops[i]? loc tmp
   (fun o => floatV P (ev n base loc tmp) o.op o.type I fun v => putK n o.dst v loc tmp fun loc tmp => planW P n base ops cl I ds r loc tmp w K)
   (fun o => putK n o.dst undef loc tmp fun loc tmp => planW P n base ops cl I ds r loc tmp w K)
 | (i, false) :: r, loc, tmp, w, K => planO n base ops ops[i]? loc tmp
   (fun o => opV P (ev n base loc tmp) o.op o.type w fun v w' => putK n o.dst v loc tmp fun loc tmp => ∃ I', (r ≠ [] -> some i ≠ cl -> I' w' /\ ∀ w, I' w -> I w) /\ planW P n base ops cl I' ds r loc tmp w' K)
   (fun o => putK n o.dst undef loc tmp fun loc tmp => planW P n base ops cl I ds r loc tmp w K)
theorem planW_any {Q : Exit -> Act -> World -> Prop} {n m cl : Nat} {oc : Option Nat} {base : Nat -> Value} {l : List Oper} {ds : List Nat} {K : Kont} (hsel : Region.noSelect l.toArray = true) (hdef : noDefer l.toArray = true) (hQ : ∀ c (a a' : Act) w, Q (.panic c) a w -> Q (.panic c) a' w) (hall : l.all (dstIn m) = true) :
 ∀ (pl : List (Nat × Bool)) (listed : Array Bool) (I : World -> Prop) (loc : List Value) (tmp : List (Nat × Value)) (w : World) (a : Act), planW P n base l oc I ds pl loc tmp w K -> planOK3 l.toArray cl oc pl listed = true -> (listed.getD cl false = false -> I w) ->
  Agree n base loc tmp a -> a.tmps.size = m -> a.defers = ds.map markOf ->
  (∀ loc tmp w a, Agree n base loc tmp a -> a.tmps.size = m -> a.defers = ds.map markOf -> K ds loc tmp w -> Q .normal a w) -> AnyI ro P l.toArray Q cl I pl.length listed a w
 | [], listed, I, loc, tmp, w, a, h, hpl, hI, ha, hs, hd, hK => by
   simp only [planOK3, List.isEmpty_iff] at hpl
   exact ⟨hI, hpl, hK loc tmp w a ha hs hd h⟩
 | (i, fl) :: r, listed, I, loc, tmp, w, a, h, hpl, hI, ha, hs, hd, hK => by
   rw [planOK3, Bool.and_eq_true] at hpl
   obtain ⟨hpl1, hpl2⟩ := hpl
   cases ho : l[i]? with
   | none => cases fl <;> (simp only [planW, ho, planO] at h)
   | some o =>
     have hoi : l.toArray[i]? = some o := by simpa using ho
     have hmem : o ∈ l := List.mem_of_getElem? ho
     have hd1 : dstIn m o = true := List.all_eq_true.1 hall o hmem
     have hdst : ∀ t, o.dst = some t -> t < a.tmps.size := by rw [hs]; exact dstIn_spec hd1
     have hnext : ∀ (I' : World -> Prop) v w', ((listed.setIfInBounds i true).getD cl false = false -> I' w') -> (putK n o.dst v loc tmp fun loc tmp => planW P n base l oc I' ds r loc tmp w' K) -> AnyI ro P l.toArray Q cl I' r.length (listed.setIfInBounds i true) (a.put o.dst v) w' := by
      intro I' v w' hI' hv
      obtain ⟨loc', tmp', ha', hv'⟩ := ha.put hdst v hv
      exact planW_any hsel hdef hQ hall r _ I' loc' tmp' w' _ hv' hpl2 hI' ha' (by cases o.dst <;> simp [Act.put, hs]) (by cases o.dst <;> simp [Act.put, hd]) hK
     cases fl with
     | true =>
       simp only [planW, ho, planO] at h
       rw [<- ha.ev] at h
       simp only [if_true, Bool.and_eq_true, List.contains_iff_mem, Bool.or_eq_true, Bool.not_eq_true', bne_iff_ne, ne_eq, hoi] at hpl1
       obtain ⟨⟨hp1, hp2⟩, hp4, hp3⟩ := hpl1
       have hnext' : ∀ v, (putK n o.dst v loc tmp fun loc tmp => planW P n base l oc I ds r loc tmp w K) -> AnyI ro P l.toArray Q cl I r.length (listed.setIfInBounds i true) (a.put o.dst v) w := fun v hk =>
        hnext I v w (fun hl => hI (by rw [getD_set_ne false (Ne.symm hp4)] at hl; exact hl)) hk
       rcases hp3 with hp3 | hp3
       . have hgive : ∃ v, GivesI P l.toArray (fun _ => True) o v a /\ putK n o.dst v loc tmp fun loc tmp => planW P n base l oc I ds r loc tmp w K := by
          rcases grdV_wanted h with ⟨hw, h⟩ | ⟨hw, h⟩
          . obtain ⟨v, hv, hk⟩ := floatV_run (floatV_pure hp3 h)
            exact ⟨v, .inl ⟨hw, hv⟩, hk⟩
          . exact ⟨undef, .inr ⟨hw, rfl⟩, h⟩
         obtain ⟨v, hg, hk⟩ := hgive
         exact AnyI_first2 [] (.inl fun _ => trivial) hp4 hoi (Region.noSelect_spec hsel) (noDefer_spec hdef) (fun c a w => hQ c _ _ w) r.length listed a w (fun j oj hj hne hun hno => Region.free_spec hoi hp2 j oj hj hne hun hno) (.inl fun _ => trivial) hp1 hg (hnext' v hk)
       . have hgive : ∃ v, GivesI P l.toArray I o v a /\ putK n o.dst v loc tmp fun loc tmp => planW P n base l oc I ds r loc tmp w K := by
          rcases grdV_wanted h with ⟨hw, h⟩ | ⟨hw, h⟩
          . obtain ⟨v, hv, hk⟩ := floatV_run h
            exact ⟨v, .inl ⟨hw, hv⟩, hk⟩
          . exact ⟨undef, .inr ⟨hw, rfl⟩, h⟩
         obtain ⟨v, hg, hk⟩ := hgive
         simp only [blocks, Bool.and_eq_true, Bool.or_eq_true, Bool.not_eq_true', List.contains_iff_mem, List.all_eq_true] at hp3
         obtain ⟨⟨⟨hb1, hb2⟩, hb3⟩, hb4⟩ := hp3
         refine AnyI_first2 (waitsFor l.toArray i) (.inr ⟨fun _ h => h, ?_, fun j hj oj hoj => ?_⟩) hp4 hoi (Region.noSelect_spec hsel) (noDefer_spec hdef) (fun c a w => hQ c _ _ w) r.length listed a w (fun j oj hj hne hun hno => Region.free_spec hoi hp2 j oj hj hne hun hno) (.inr ⟨hb3, hb4⟩) hp1 hg (hnext' v hk)
         . rcases hb2 with h | h
           . exact .inl h
           . right
             split at h
             . assumption
             . cases h
         . have := List.all_eq_true.1 hb1 j hj
           rw [hoj] at this
           obtain ⟨k, hk, hk'⟩ := Array.any_eq_true.1 this
           simp only [Bool.and_eq_true, Bool.or_eq_true, beq_iff_eq, List.contains_iff_mem] at hk'
           exact ⟨_, Array.getElem_mem hk, hk'⟩
     | false =>
       simp only [Bool.false_eq_true, if_false, beq_iff_eq, Bool.and_eq_true] at hpl1
       obtain ⟨hp1, hp2⟩ := hpl1
       refine ⟨hI, fun e => (by rw [e] at hp1; cases hp1), fun j hj => ?_⟩
       rw [hp1, List.mem_singleton] at hj
       subst hj
       unfold wpOpIn
       simp only [hoi]
       simp only [planW, ho, planO] at h
       rw [<- ha.ev] at h
       by_cases hcl : r = [] ∨ some j = oc
       . have hcl' : (r.isEmpty || some j == oc) = true := by
          rcases hcl with h | h
          . simp [h]
          . simp [h]
         rw [hcl', if_pos rfl, Bool.and_eq_true, beq_iff_eq, decide_eq_true_eq] at hp2
         have hset : (listed.setIfInBounds j true).getD cl false = true := by
          rw [<- hp2.1]; simp [hp2.2]
         have hfin : ∀ (I' : World -> Prop) v w', (putK n o.dst v loc tmp fun loc tmp => planW P n base l oc I' ds r loc tmp w' K) -> AnyI ro P l.toArray Q cl I r.length (listed.setIfInBounds j true) (a.put o.dst v) w' := fun I' v w' hv =>
          (hnext I' v w' (fun hf => by rw [hset] at hf; cases hf) hv).listed _ _ _ _ hset
         rcases grdV_wanted h with ⟨hw, h⟩ | ⟨hw, h⟩
         . rw [if_pos hw]
           refine (opV_step h).wp fun v w' hv => ?_
           obtain ⟨loc', tmp', ha', I', hI', hv'⟩ := ha.put hdst v hv
           exact (planW_any hsel hdef hQ hall r _ I' loc' tmp' w' _ hv' hpl2 (fun hf => by rw [hset] at hf; cases hf) ha' (by cases o.dst <;> simp [Act.put, hs]) (by cases o.dst <;> simp [Act.put, hd]) hK).listed _ _ _ _ hset
         . rw [if_neg (by rw [hw]; simp)]
           exact ⟨fun f _ => fz_fn f, hfin I _ _ h⟩
       . have hcl' : (r.isEmpty || some j == oc) = false := by
          rw [not_or] at hcl
          simp [hcl.1, hcl.2]
         rw [hcl'] at hp2
         simp only [Bool.false_eq_true, if_false, Bool.and_eq_true, Bool.not_eq_true', bne_iff_ne, ne_eq] at hp2
         rw [not_or] at hcl
         have hfin : ∀ v w', (putK n o.dst v loc tmp fun loc tmp => ∃ I', (r ≠ [] -> some j ≠ oc -> I' w' /\ ∀ w, I' w -> I w) /\ planW P n base l oc I' ds r loc tmp w' K) -> AnyI ro P l.toArray Q cl I r.length (listed.setIfInBounds j true) (a.put o.dst v) w' := by
          intro v w' hv
          obtain ⟨loc', tmp', ha', I', hI', hv'⟩ := ha.put hdst v hv
          have hi' := hI' hcl.1 hcl.2
          exact (planW_any hsel hdef hQ hall r _ I' loc' tmp' w' (a.put o.dst v) hv' hpl2 (fun _ => hi'.1) ha' (by cases o.dst <;> simp [Act.put, hs]) (by cases o.dst <;> simp [Act.put, hd]) hK).mono hi'.2
         rcases grdV_wanted h with ⟨hw, h⟩ | ⟨hw, h⟩
         . rw [if_pos hw]
           exact (opV_step h).wp hfin
         . rw [if_neg (by rw [hw]; simp)]
           exact ⟨fun f _ => fz_fn f, hnext I _ _ (fun _ => hI hp2.1) h⟩
end
end Go.E
namespace Go.E
def keepO (keep : Nat -> Bool) (i : Nat) (o : AObj) : AObj := match keep i with
 | true => o
 | false => .gone
def keepT (keep : Nat -> Bool) (T : Tbl) : Tbl := T.mapIdx fun i o => keepO keep i o
theorem keepT_get (keep : Nat -> Bool) (T : Tbl) (i : Nat) : (keepT keep T)[i]? = T[i]?.map (keepO keep i) := by simp [keepT, List.getElem?_mapIdx]
def keepOK (keep : Nat -> Bool) (es : Eff) : Bool := es.all fun e => !keep e.1
def planOA (ops : List Oper) (o : Option Oper) (look : Operand -> AV) (A B : Oper -> Prop) (_ : Tag A := .mk) (_ : Tag B := .mk) : Prop :=
 match o with
 | none => False
 | some o => grdA ops o look (A o) (B o)
def planA (P : Program) (G : Nat -> AV) (N n : Nat) (ops : List Oper) (cl : Option Nat) (keep : Nat -> Bool) : List AV -> List (Nat × Bool) -> List AV -> List (Nat × AV) -> Tbl -> Eff -> (K : AKont) -> (_ : Tag K := .mk) -> Prop
 | ds, [], loc, tmp, T, E, K, _ => K ds loc tmp T E
 | ds, (i, true) :: r, loc, tmp, T, E, K, _ => planOA ops ops[i]? (evA G n loc tmp)
   (fun o => rdF P (evA G n loc tmp) o.op o.type (keepT keep T) fun v => putA n o.dst v loc tmp fun loc tmp => planA P G N n ops cl keep ds r loc tmp T E K)
   (fun o => putA n o.dst (.p undef) loc tmp fun loc tmp => planA P G N n ops cl keep ds r loc tmp T E K)
 | ds, (i, false) :: r, loc, tmp, T, E, K, _ => planOA ops ops[i]? (evA G n loc tmp)
   (fun o => opA P G (evA G n loc tmp) o.op o.type T fun v T' es => putA n o.dst v (slots es loc) (slotsT es tmp) fun loc tmp => (keepOK keep es = true ∨ r = [] ∨ some i = cl) /\ planA P G N n ops cl keep (slots es ds) r loc tmp T' (recE N es E) K)
   (fun o => putA n o.dst (.p undef) loc tmp fun loc tmp => planA P G N n ops cl keep ds r loc tmp T E K)
section
variable {P : Program} {G : Nat -> AV} {Z Z' Z0 : Heap} {ρ ρ' ρ0 : List BI} {T T' T0 : Tbl} {w w' w0 : World} {a b : AV} {u v : Value} {K : AV -> Tbl -> Eff -> Prop} {cs : List AV} {es E : Eff}
variable {N n m : Nat} {ro : Option Nat} {ds loc : List AV} {tmp : List (Nat × AV)} {Nk R : AKont} {X : Nat -> AKont}
theorem keepT_live {keep : Nat -> Bool} {i : Nat} {o : AObj} (h : (keepT keep T)[i]? = some o) (hl : o.live = true) : T[i]? = some o /\ keep i = true := by
 rw [keepT_get] at h
 cases hT : T[i]? with
 | none => rw [hT] at h; cases h
 | some o' =>
   rw [hT] at h
   simp only [Option.map_some, Option.some.injEq, keepO] at h
   split at h
   . subst h; exact ⟨rfl, by assumption⟩
   . subst h; cases hl
theorem St.keepT (h : St Z ρ T w) (keep : Nat -> Bool) : St Z ρ (keepT keep T) w := by
 refine ⟨h.of, by simp [Go.E.keepT, h.len], fun i o x h1 h2 => ?_, fun i o x b h1 hl h2 hb => ?_⟩
 . by_cases hl : o.live = true
   . exact h.obj i o x (keepT_live h1 hl).1 h2
   . cases o <;> first | exact (hl rfl).elim | trivial
 . obtain ⟨g1, g2⟩ := h.apart i o x b (keepT_live h1 hl).1 hl h2 hb
   exact ⟨g1, fun j o' y hj k1 k2 => g2 j o' y hj (keepT_live k1 k2).1 k2⟩
theorem agr_step {keep : Nat -> Bool} (hx : Ext Z ρ T w Z' ρ' T' w' es) (hk : keepOK keep es = true) (w2 : World) (h : Agr Z' ρ' (keepT keep T') w' w2) : Agr Z ρ (keepT keep T) w w2 := by
 refine ⟨⟨fun b o hb => by rw [<- hx.le.2.2.2 b o hb]; exact h.1.1 b o (hx.le.1 b o hb), h.1.2.1.trans hx.le.2.1, h.1.2.2.trans hx.le.2.2.1⟩, fun i o x b h1 hl h2 hb => ?_⟩
 obtain ⟨g1, g2⟩ := keepT_live h1 hl
 have hn : ∀ t, (i, t) ∉ es := fun t hm => by
  have := List.all_eq_true.1 hk _ hm
  simp [g2] at this
 obtain ⟨k1, o', k2, k3⟩ := hx.same i x o b g1 hl h2 hb hn
 have k4 := hx.place i x h2 (hn true)
 have := h.2 i o' x b (by rw [keepT_get, k2]; simp only [Option.map_some, keepO]; split <;> simp_all) k3 k4 hb
 rw [this, k1]
theorem planA_sound {n : Nat} {base : Nat -> Value} {ops : List Oper} {cl : Option Nat} {keep : Nat -> Bool} {K : AKont} : ∀ (pl : List (Nat × Bool)) (ds loc : List AV) (tmp : List (Nat × AV)) (dv : List Nat) (lv : List Value) (tv : List (Nat × Value)) (Z : Heap) (ρ : List BI) (T : Tbl) (w : World) (E : Eff),
 planA P G ρ0.length n ops cl keep ds pl loc tmp T E K -> Frm G Z0 ρ0 T0 w0 Z ρ T w E -> At Z ρ ds loc tmp dv lv tv -> planW P n base ops cl (Agr Z ρ (keepT keep T) w) dv pl lv tv w (LK G Z0 ρ0 T0 w0 K)
 | [], ds, loc, tmp, dv, lv, tv, Z, ρ, T, w, E, h, hf, ha => ⟨Z, ρ, T, E, ds, loc, tmp, hf, ha.ds, ha.loc, ha.tmp, h⟩
 | (i, true) :: r, ds, loc, tmp, dv, lv, tv, Z, ρ, T, w, E, h, hf, ha => by
   simp only [planA, planOA] at h
   simp only [planW, planO]
   have he := evA_rel (n := n) (base := base) hf.g ha.loc ha.tmp
   cases ho : ops[i]? with
   | none => rw [ho] at h; exact h.elim
   | some o =>
     rw [ho] at h
     simp only at h ⊢
     refine grdA_sound h he (fun h => ?_) (fun h => ?_)
     . refine valV_mono (rdF_sound (hf.st.keepT keep) he h) (fun _ _ h => h) (fun s h => FloatP.mono h (fun _ h => h) ?_) ?_
       all_goals
        rintro v ⟨a, h1, h2⟩
        exact putA_sound h2 h1 ha fun loc tmp lv tv hk hat => planA_sound r _ _ _ _ _ _ _ _ _ _ _ hk hf hat
     . exact putA_sound h (.p _) ha fun loc tmp lv tv hk hat => planA_sound r _ _ _ _ _ _ _ _ _ _ _ hk hf hat
 | (i, false) :: r, ds, loc, tmp, dv, lv, tv, Z, ρ, T, w, E, h, hf, ha => by
   simp only [planA, planOA] at h
   simp only [planW, planO]
   have he := evA_rel (n := n) (base := base) hf.g ha.loc ha.tmp
   cases ho : ops[i]? with
   | none => rw [ho] at h; exact h.elim
   | some o =>
     rw [ho] at h
     simp only at h ⊢
     refine grdA_sound h he (fun h => ?_) (fun h => ?_)
     . refine opV_mono (opA_sound hf.g hf.st he h) fun v w' h2 => ?_
       obtain ⟨Z', ρ', T', es, a, k1, k2, k3, k4⟩ := h2
       refine putA_sound k4 k3 (ha.step k2) fun loc tmp lv tv hk hat => ⟨Agr Z' ρ' (keepT keep T') w', fun hr hc => ?_, planA_sound r _ _ _ _ _ _ _ _ _ _ _ hk.2 (hf.step k1 k2) hat⟩
       exact ⟨agr_self (k1.keepT keep), agr_step k2 (hk.1.resolve_right (fun h => h.elim hr hc))⟩
     . exact putA_sound h (.p _) ha fun loc tmp lv tv hk hat => planA_sound r _ _ _ _ _ _ _ _ _ _ _ hk hf hat
theorem Frm.same (h : Frm G Z0 ρ0 T0 w0 Z ρ T w E) (e : Alike w' w) : Frm G Z0 ρ0 T0 w0 Z ρ T w' E :=
 ⟨h.g, h.st.same e, ⟨h.ext.le, h.ext.place, fun i x o b h1 h2 h3 h4 h5 => by rw [e.1]; exact h.ext.same i x o b h1 h2 h3 h4 h5⟩⟩
theorem SemA.drawC {id : Nat} {ops : Array Oper} (cl : Nat) (oc : Option Nat) (keep : Nat -> Bool) (pl : List (Nat × Bool)) (hm : P.follows .mixedOrders = true)
 (hok : (Region.noSelect ops && noDefer ops && ops.toList.all (dstIn m) && pl.length == ops.size && planOK3 ops cl oc pl (Array.replicate ops.size false)) = true)
 (h : planA P G N n ops.toList oc keep ds pl loc [] T E Nk) : SemA P G N ro n m (.region id ops true) ds loc tmp T E Nk X R := by
 simp only [Bool.and_eq_true, beq_iff_eq] at hok
 obtain ⟨⟨⟨⟨h1, h0⟩, h2⟩, h3⟩, h4⟩ := hok
 intro Z0 ρ0 T0 w0 Z ρ w dv lv tv hN hf ha
 refine SemV.cleared ?_
 intro a haa Qs hQs
 refine wpIn_mono (Q := fun e a w => ∃ dv lv tv, Fits' n m dv lv tv a /\ mkQ (LK G Z0 ρ0 T0 w0 Nk) (fun i => LK G Z0 ρ0 T0 w0 (X i)) (LK G Z0 ρ0 T0 w0 R) e dv lv tv w) ?_ (fun e a w ⟨ds, loc, tmp, hf, hq⟩ => hQs _ _ _ _ _ _ hf hq)
 have hdr : Alike { w with drawn := w.drawn + 1 } w := ⟨rfl, rfl, rfl⟩
 have hf' := hf.same hdr
 subst hN
 refine wpIn_region_any hm (AnyI.any (cl := cl) (I := Agr Z ρ (keepT keep T) { w with drawn := w.drawn + 1 }) _ _ _ _ ?_)
 have := planW_any (P := P) (cl := cl) (oc := oc) (ro := ro) (Q := fun e a w => ∃ dv lv tv, Fits' n m dv lv tv a /\ mkQ (LK G Z0 ρ0 T0 w0 Nk) (fun i => LK G Z0 ρ0 T0 w0 (X i)) (LK G Z0 ρ0 T0 w0 R) e dv lv tv w) (l := ops.toList) (K := LK G Z0 ρ0 T0 w0 Nk) (by simpa using h1) (by simpa using h0) (fun c a a' w ⟨ds, loc, tmp, _, hq⟩ => hq.elim) h2 pl
  (Array.replicate ops.size false) (Agr Z ρ (keepT keep T) { w with drawn := w.drawn + 1 }) lv [] { w with drawn := w.drawn + 1 } a (planA_sound pl ds loc [] dv lv [] Z ρ T _ E h hf' ha.clear) (by simpa using h4) (fun _ => agr_self (hf'.st.keepT keep)) haa.clear haa.size haa.defers
  (fun loc tmp w a h1 h2 h3 hk => ⟨dv, loc, tmp, ⟨⟨_, h1⟩, h2, h3⟩, hk⟩)
 rw [h3] at this
 simpa using this
theorem SemA.draw {id : Nat} {ops : Array Oper} (keep : Nat -> Bool) (pl : List (Nat × Bool)) (hm : P.follows .mixedOrders = true)
 (hok : (Region.noSelect ops && noDefer ops && ops.toList.all (dstIn m) && pl.length == ops.size && planOK3 ops (clOf ops pl) none pl (Array.replicate ops.size false)) = true)
 (h : planA P G N n ops.toList none keep ds pl loc [] T E Nk) : SemA P G N ro n m (.region id ops true) ds loc tmp T E Nk X R := SemA.drawC (clOf ops pl) none keep pl hm hok h
theorem RelT.wo {tmp : List (Nat × AV)} {tv : List (Nat × Value)} {q : Nat -> Bool} (h : RelT Z ρ tmp tv) (hk : Kept q ρ ρ') : RelT Z ρ' (tmp.map fun p => (p.1, p.2.wo q)) tv := by
 induction h with
 | nil => exact .nil
 | cons h hs ih => exact .cons (h.wo hk) ih
theorem At.wo {dv : List Nat} {lv : List Value} {tv : List (Nat × Value)} {q : Nat -> Bool} (h : At Z ρ ds loc tmp dv lv tv) (hk : Kept q ρ ρ') : At Z ρ' (ds.map (AV.wo q)) (loc.map (AV.wo q)) (tmp.map fun p => (p.1, p.2.wo q)) dv lv tv :=
 ⟨h.ds.wo hk, h.loc.wo hk, h.tmp.wo hk⟩
theorem Frm.cut (h : Frm G Z0 ρ0 T0 w0 Z ρ T w E) (k : Nat) (hk : ρ0.length <= k) : Frm G Z0 ρ0 T0 w0 Z (ρ.take k) ((T.take k).map (AObj.wo (k <= ·))) w E := by
 obtain ⟨h1, h2⟩ := h.st.cut k
 refine ⟨h.g, h1, ⟨h.ext.le, fun i x hx hn => ?_, fun i x o b h3 h4 h5 h6 h7 => ?_⟩⟩
 . exact h2 i x (by simp; have := (List.getElem?_eq_some_iff.1 hx).1; omega) (h.ext.place i x hx hn)
 . obtain ⟨g1, o', g2, g3⟩ := h.ext.same i x o b h3 h4 h5 h6 h7
   refine ⟨g1, o'.wo (k <= ·), ?_, by rwa [AObj.live_wo]⟩
   have : i < k := by have := (List.getElem?_eq_some_iff.1 h5).1; omega
   rw [List.getElem?_map, List.getElem?_take_of_lt this, g2]; rfl
theorem SemA.cut {c : Code} (k : Nat) (hk : N <= k) (h : SemA P G N ro n m c (ds.map (AV.wo (k <= ·))) (loc.map (AV.wo (k <= ·))) (tmp.map fun p => (p.1, p.2.wo (k <= ·))) ((T.take k).map (AObj.wo (k <= ·))) E Nk X R) : SemA P G N ro n m c ds loc tmp T E Nk X R :=
 SemA.view (fun Z0 ρ0 T0 w0 Z ρ w dv lv tv hN hf ha => ⟨Z, ρ.take k, hf.cut k (by omega), ha.wo (hf.st.cut k).2⟩) h
theorem SemA.loopC {σ : Type} {c : Code} (L : σ -> List (Nat × AV)) (Tb : σ -> Tbl) (Q : σ -> Prop) (μ : σ -> Nat) (k : Nat) (s0 : σ) (Ei : Eff) (hok : codeOK m c = true) (hk : N <= k) (hQ : Q s0) (hL : Lc n (L s0) loc) (hT : T = Tb s0) (hE : ∀ x ∈ E, x ∈ Ei)
 (round : ∀ s g, Q s -> codeA P G N ro n m c ds (mkA g (L s) 0 n) [] (Tb s) Ei (fun ds' loc' _ T' E' => ds'.map (AV.wo (k <= ·)) = ds /\ (∃ s', Q s' /\ μ s' < μ s /\ Lc n (L s') (loc'.map (AV.wo (k <= ·))) /\ (T'.take k).map (AObj.wo (k <= ·)) = Tb s') /\ ∀ x ∈ E', x ∈ Ei) X R) : SemA P G N ro n m (.loop c) ds loc [] T E Nk X R := by
 intro Z0 ρ0 T0 w0 Z ρ w dv lv tv hN hf ha a haa Qs hQs
 refine wpIn_loop_ghost (fun k a w => ∃ (Z : Heap) (ρ : List BI) (s : σ) (loc : List AV) (dv : List Nat) (lv : List Value) (tv : List (Nat × Value)), Fits' n m dv lv tv a /\ Frm G Z0 ρ0 T0 w0 Z ρ (Tb s) w Ei /\ At Z ρ ds loc [] dv lv [] /\ (Q s /\ Lc n (L s) loc) /\ μ s = k)
  (μ s0) ⟨Z, ρ, s0, loc, dv, lv, tv, haa, hT ▸ hf.more hE, ha.clear, ⟨hQ, hL⟩, rfl⟩ ?_
 rintro j a w ⟨Z, ρ, s, loc, dv, lv, tv, haa, hf, hat, ⟨hI, hL⟩, rfl⟩
 obtain ⟨g, rfl⟩ := hL.elim
 have hr := codeA_sound c ds _ [] (Tb s) Ei _ _ _ (round s g hI) hok Z0 ρ0 T0 w0 Z ρ w dv lv [] hN hf hat
 refine hr a haa.cleared _ fun e dv' lv' tv' w' a' haa' hq => ?_
 cases e with
 | normal =>
   obtain ⟨Z', ρ', T', E', ds', loc', tmp', g1, g2, g3, g4, e1, ⟨s', h1, h2, h3, e2⟩, g6⟩ := hq
   have hc := (g1.more g6).cut k (by omega)
   have hw := (g1.st.cut k).2
   rw [e2] at hc
   exact ⟨_, h2, Z', _, s', _, dv', lv', tv', haa', hc, ⟨e1 ▸ g2.wo hw, g3.wo hw, .nil⟩, ⟨h1, h3⟩, rfl⟩
 | exit i => exact hQs (.exit i) _ _ _ _ _ haa' hq
 | ret => exact hQs .ret _ _ _ _ _ haa' hq
 | _ => exact hq.elim
theorem Frm.pub (h : Frm G Z0 ρ0 T0 w0 Z ρ T w E) {i : Nat} {o : AObj} (hT : T[i]? = some o) (hc : o.cs = some cs) (hcl : ∀ a ∈ cs, a.Clean) :
 ∃ Z', Frm G Z0 ρ0 T0 w0 Z' ρ ((T.map (AObj.pub i cs)).set i .gone) w (rec1 ρ0.length i false E) /\ ∀ a v, Rel Z ρ a v -> Rel Z' ρ (a.pub i cs) v := by
 obtain ⟨Z', h1, h2, h3, h4⟩ := h.st.publish hT hc hcl
 exact ⟨Z', h.step h2 h3, h4⟩
theorem RelL.pub' {vs : List Value} {i : Nat} (h : RelL Z ρ ds vs) (hr : ∀ a v, Rel Z ρ a v -> Rel Z' ρ (a.pub i cs) v) : RelL Z' ρ (ds.map (AV.pub i cs)) vs := by
 refine ⟨by simpa using h.1, fun k x y hx hy => ?_⟩
 rw [List.getElem?_map] at hx
 cases ha : ds[k]? with
 | none => rw [ha] at hx; cases hx
 | some a => rw [ha] at hx; cases hx; exact hr _ _ (h.2 k a y ha hy)
def SeeL (G : Nat -> AV) (N n : Nat) (ds loc : List AV) (T : Tbl) (E : Eff) (ds' : List AV) (L : List (Nat × AV)) (T' : Tbl) (E' : Eff) : Prop :=
 ∀ (Z0 : Heap) (ρ0 : List BI) (T0 : Tbl) (w0 : World) (Z : Heap) (ρ : List BI) (w : World) (dv : List Nat) (lv : List Value), ρ0.length = N -> Frm G Z0 ρ0 T0 w0 Z ρ T w E -> At Z ρ ds loc [] dv lv [] ->
  ∃ Z' ρ' loc', Frm G Z0 ρ0 T0 w0 Z' ρ' T' w E' /\ At Z' ρ' ds' loc' [] dv lv [] /\ Lc n L loc'
theorem SeeL.done {ds' : List AV} {L : List (Nat × AV)} {E' : Eff} (h : ds = ds' /\ Lc n L loc /\ T = T' /\ ∀ x ∈ E, x ∈ E') : SeeL G N n ds loc T E ds' L T' E' := by
 obtain ⟨rfl, h1, rfl, h2⟩ := h
 exact fun Z0 ρ0 T0 w0 Z ρ w dv lv hN hf ha => ⟨Z, ρ, loc, hf.more h2, ha, h1⟩
theorem SeeL.cut {ds' : List AV} {L : List (Nat × AV)} {E' : Eff} (k : Nat) (hk : N <= k) (h : SeeL G N n (ds.map (AV.wo (k <= ·))) (loc.map (AV.wo (k <= ·))) ((T.take k).map (AObj.wo (k <= ·))) E ds' L T' E') : SeeL G N n ds loc T E ds' L T' E' :=
 fun Z0 ρ0 T0 w0 Z ρ w dv lv hN hf ha => h Z0 ρ0 T0 w0 Z _ w dv lv hN (hf.cut k (by omega)) (ha.wo (hf.st.cut k).2)
def rsA (P : Program) (loc : List AV) (T : Tbl) : List ResultVar -> (List AV -> Prop) -> Prop
 | [], K => K []
 | .tmp t :: r, K => rsA P loc T r fun l => K (loc.getD t .any :: l)
 | .cell t ty :: r, K => loadA P ty (loc.getD t .any) T fun v => rsA P loc T r fun l => K (v :: l)
def oneA (l : List AV) (K : AV -> Prop) : Prop := match l with
 | [v] => K v
 | l => K (.tu l)
def resA (P : Program) (rs : List ResultVar) (loc : List AV) (T : Tbl) (K : AV -> Prop) : Prop := rsA P loc T rs fun l => oneA l K
def rsLt (n : Nat) : List ResultVar -> Bool
 | [] => true
 | .tmp t :: r => decide (t < n) && rsLt n r
 | .cell t _ :: r => decide (t < n) && rsLt n r
def defO (o : AObj) (A : Prop) (_ : Tag A := .mk) : Prop := match o with
 | .raw (.deferred (some [])) => A
 | _ => False
def retA (P : Program) (rs : List ResultVar) (K : AV -> Tbl -> Eff -> Prop) : AKont := fun ds loc _ T E => match ds with
 | [] => resA P rs loc T fun v => K v T E
 | [.ptr i 0] => getO T[i]? fun o => defO o (resA P rs loc (T.set i (.raw (.deferred none))) fun v => K v (T.set i (.raw (.deferred none))) ((i, false) :: E))
 | _ => False
theorem getD_rel {vs : List Value} (h : RelL Z ρ loc vs) (t : Nat) : Rel Z ρ (loc.getD t .any) (vs.getD t undef) := by
 by_cases hk : t < loc.length
 . have h2 : t < vs.length := by rw [<- h.1]; exact hk
   have := h.2 t loc[t] vs[t] (by simp [hk]) (by simp [h2])
   simpa [List.getD, hk, h2] using this
 . rw [show loc.getD t .any = .any by rw [List.getD_eq_getElem?_getD, List.getElem?_eq_none (Nat.le_of_not_lt hk)]; rfl]; exact .any _
def rsF (tmps : Array Value) : ResultVar -> Sem Value
 | .tmp t => pure (tmps.getD t undef)
 | .cell a t => do loadVar t (<- asAddr (tmps.getD a undef))
theorem rsF_tmp (tmps : Array Value) (t : Tmp) (w : World) : (rsF tmps (.tmp t)).run P w = .ok (tmps.getD t undef) w := by simp [rsF]
theorem rsF_cell {tmps : Array Value} {t : Tmp} {ty : TypeId} {p : Addr} {v : Value} (h : tmps.getD t undef = .pointer (some p)) (hv : (Instr.loadAt ty (.pointer (some p))).run P w = .ok v w) : (rsF tmps (.cell t ty)).run P w = .ok v w := by
 simp only [rsF, h, asAddr, Sem.run_bind, Sem.run_pure, Result.andThen_ok]
 simpa [Instr.loadAt, Instr.sureAddr] using hv
theorem rsF_mapM {tmps : Array Value} {x : ResultVar} {r : List ResultVar} {v : Value} {vs : List Value} (h : (rsF tmps x).run P w = .ok v w) (h' : (r.mapM (rsF tmps)).run P w = .ok vs w) : ((x :: r).mapM (rsF tmps)).run P w = .ok (v :: vs) w := by
 simp only [List.mapM_cons, Sem.run_bind, h, h', Result.andThen_ok, Sem.run_pure]
theorem rsA_run (hs : St Z ρ T w) {lv : List Value} (hl : RelL Z ρ loc lv) : ∀ (rs : List ResultVar) (K : List AV -> Prop), rsA P loc T rs K -> ∃ (l : List AV) (vs : List Value), RelL Z ρ l vs /\ K l /\ l.length = rs.length /\
 ∀ (n : Nat) (tmps : Array Value), rsLt n rs = true -> (∀ t, t < n -> tmps.getD t undef = lv.getD t undef) -> (rs.mapM (rsF tmps)).run P w = .ok vs w
 | [], K, h => ⟨[], [], .nil, h, rfl, fun n tmps _ _ => by simp⟩
 | .tmp t :: r, K, h => by
   obtain ⟨l, vs, h1, h2, h3, h4⟩ := rsA_run hs hl r _ h
   refine ⟨_, _ :: vs, .cons (getD_rel hl t) h1, h2, by simp [h3], fun n tmps hn ht => ?_⟩
   simp only [rsLt, Bool.and_eq_true, decide_eq_true_eq] at hn
   rw [<- ht t hn.1]
   exact rsF_mapM (rsF_tmp tmps t w) (h4 n tmps hn.2 ht)
 | .cell t ty :: r, K, h => by
   have h0 := loadA_sound hs (getD_rel hl t) h
   obtain ⟨p, hp, v, hv, a, ha, hk⟩ := ptrV_elim h0
   obtain ⟨l, vs, h1, h2, h3, h4⟩ := rsA_run hs hl r _ hk
   refine ⟨_, v :: vs, .cons ha h1, h2, by simp [h3], fun n tmps hn ht => ?_⟩
   simp only [rsLt, Bool.and_eq_true, decide_eq_true_eq] at hn
   have e := ht t hn.1
   rw [hp] at e
   have hv' := hv w (agr_self hs)
   cases p with
   | none => simp [Instr.loadAt, Instr.sureAddr, stuck] at hv'
   | some p => exact rsF_mapM (rsF_cell e hv') (h4 n tmps hn.2 ht)
theorem resA_sound {fn : Func} (hf : Frm G Z0 ρ0 T0 w0 Z ρ T w E) {lv : List Value} (hl : RelL Z ρ loc lv) (hn : rsLt n fn.results.toList = true) (h : resA P fn.results.toList loc T fun v => K v T E) :
 ResP P fn n (Post Z0 ρ0 T0 w0 K) [] lv w := by
 obtain ⟨l, vs, h1, h2, h3, h4⟩ := rsA_run hf.st hl _ _ h
 refine ResP.run (v := if h : vs.toArray.size = 1 then vs.toArray[0] else .tuple vs.toArray) (fun tmps ht => ?_) ?_
 . have := h4 n tmps hn ht
   have e : results fn tmps = (do
    let vs <- fn.results.mapM (rsF tmps)
    pure (if h : vs.size = 1 then vs[0] else .tuple vs)) := by
    unfold results
    congr 2
   rw [e, Array.mapM_eq_mapM_toList]
   simp [this]
 . unfold oneA at h2
   split at h2
   . obtain ⟨v, us, rfl, h5, h6⟩ := h1.uncons
     cases h6.unnil
     exact ⟨Z, ρ, T, E, _, hf.st, hf.ext, by simpa using h5, h2⟩
   . rename_i hne
     have hv : ¬ vs.toArray.size = 1 := by
      intro hs
      have : vs.length = 1 := by simpa using hs
      rw [<- h1.1] at this
      match l, this with
      | [x], _ => exact hne x rfl
     rw [dif_neg hv]
     exact ⟨Z, ρ, T, E, _, hf.st, hf.ext, Rel.tu' h1, h2⟩
theorem retA_sound {fn : Func} (hf : Frm G Z0 ρ0 T0 w0 Z ρ T w E) {dv : List Nat} {lv : List Value} (hd : RelL Z ρ ds (dv.map fun b => .pointer (some ⟨b, 0, none⟩))) (hl : RelL Z ρ loc lv) (hn : rsLt n fn.results.toList = true) (h : retA P fn.results.toList K ds loc tmp T E) :
 ResP P fn n (Post Z0 ρ0 T0 w0 K) dv lv w := by
 unfold retA at h
 split at h
 . have hdv : dv = [] := by have := hd.unnil; simpa using this
   subst hdv
   exact resA_sound hf hl hn h
 . rename_i i
   obtain ⟨o, hT, h⟩ := getO_elim h
   unfold defO at h
   split at h
   . obtain ⟨v, us, hv, hr, hrs⟩ := hd.uncons
     have hus := hrs.unnil
     subst hus
     obtain ⟨b, rfl, hb⟩ : ∃ b, dv = [b] /\ v = .pointer (some ⟨b, 0, none⟩) := by
      cases dv with
      | nil => cases hv
      | cons b r => cases r with
        | nil => simp at hv; exact ⟨b, rfl, hv.symm⟩
        | cons c r => simp at hv
     subst hb
     cases hr with
     | @ptr _ _ _ _ x hx hb =>
     obtain ⟨b', g1, g2⟩ := hf.st.obj _ _ _ hT hx
     rw [hb] at g1; cases g1
     have hb' : b < w.heap.size := (Array.getElem?_eq_some_iff.1 g2).1
     refine ⟨_, run_takeDeferred g2, ?_⟩
     obtain ⟨k1, k2⟩ := hf.st.write (w' := w.putObj b (.deferred none)) hT hx rfl (.raw (.deferred none)) rfl (fun k hk => World.putObj_heap_other fun e => hk (by rw [e]; exact hb)) ⟨rfl, rfl⟩ ⟨b, hb, World.putObj_heap_same hb'⟩
     have hf' := hf.step k1 k2
     have hl' : RelL Z ρ loc lv := hl
     have hE : Frm G Z0 ρ0 T0 w0 Z ρ (T.set i (.raw (.deferred none))) (w.putObj b (.deferred none)) ((i, false) :: E) := ⟨hf'.g, hf'.st, hf'.ext.more fun x hx _ => by
      rcases recE_mem.1 hx with ⟨h1, _⟩ | h1
      . simp at h1; simp [h1]
      . simp [h1]⟩
     exact resA_sound hE hl' hn h
   . exact h.elim
 . exact h.elim
theorem Ret.enterS {f : FuncId} {fn : Func} {c : Code} {args : Array Value} {Q : Value -> World -> Prop} (n : Nat)
 (hf : P.funcs[f]? = some fn) (hb : fn.body = some c) (hn : (args.size <= n /\ n <= fn.ntmps))
 (hs : SemV P none n fn.ntmps c [] (args.toList ++ List.replicate (n - args.size) undef) [] w (mkQ (retQ P fn n Q) (fun _ _ _ _ _ => False) (retQ P fn n Q))) : Ret P f args w Q := by
 refine callsIn_wide (n := 0).1 (callsIn_of_wp_marks hf hb trivial ?_)
 refine hs { tmps := args ++ Array.replicate (fn.ntmps - args.size) undef, defers := [] } ⟨⟨fun _ => undef, by simp; omega, by simp; omega, fun t ht => ?_, fun t ht => ?_⟩, by simp; omega, rfl⟩ _ ?_
 . simp only [Array.getD_eq_getD_getElem?, List.getD_eq_getElem?_getD]
   by_cases h1 : t < args.size
   . rw [Array.getElem?_append_left h1, List.getElem?_append_left (by simpa using h1), Array.getElem?_toList]
   . rw [Array.getElem?_append_right (by omega), List.getElem?_append_right (by simp; omega)]
     simp only [Array.getElem?_replicate, List.getElem?_replicate, Array.length_toList]
     rw [if_pos (by omega), if_pos (by omega)]
 . simp only [Array.getD_eq_getD_getElem?, lk]
   rw [Array.getElem?_append_right (by omega), Array.getElem?_replicate]
   split <;> rfl
 . intro e ds loc tmp w a ha hq
   have key : ResP P fn n Q ds loc w -> LeavesInM Fence.wide 0 P fn a.tmps (fun e w' => ∃ v, e = .returned v /\ Q v w') a.defers .returning w := by
    intro hr
    obtain ⟨base, _, _, h3, _⟩ := ha.base
    rw [ha.defers]
    exact hr.leaves _ _ _ h3
   cases e with
   | normal => exact key hq
   | ret => exact key hq
   | _ => exact hq.elim
theorem CallA.enter {f : FuncId} {fn : Func} {c : Code} {args : List AV} (n : Nat) (hf : P.funcs[f]? = some fn) (hb : fn.body = some c) (hn : (args.length <= n /\ n <= fn.ntmps)) (hok : codeOK fn.ntmps c = true) (hr : rsLt n fn.results.toList = true)
 (h : codeA P G T.length none n fn.ntmps c [] (args ++ List.replicate (n - args.length) (.p undef)) [] T [] (retA P fn.results.toList K) (fun _ _ _ _ _ _ => False) (retA P fn.results.toList K)) : CallA P G f args T K := by
 intro Z ρ w vs hG hs ha
 have hl := ha.1
 refine Ret.enterS n hf hb ⟨by simp; omega, hn.2⟩ ?_
 have hsem := codeA_sound c _ _ _ _ _ _ _ _ h hok Z ρ T w Z ρ w [] (vs ++ List.replicate (n - vs.length) undef) [] hs.len ⟨hG, hs, Ext.refl rfl⟩ ⟨.nil, ha.append (by rw [hl]; have := RelL.ps (Z := Z) (ρ := ρ) (List.replicate (n - vs.length) undef); rwa [List.map_replicate] at this), .nil⟩
 have e : (vs.toArray.toList ++ List.replicate (n - vs.toArray.size) undef) = vs ++ List.replicate (n - vs.length) undef := by simp
 rw [e]
 refine hsem.mono fun e dv lv tv w' hq => ?_
 cases e with
 | normal => obtain ⟨Z', ρ', T', E', ds', loc', tmp', g1, g2, g3, g4, g5⟩ := hq; exact retA_sound g1 g2 g3 hr g5
 | ret => obtain ⟨Z', ρ', T', E', ds', loc', tmp', g1, g2, g3, g4, g5⟩ := hq; exact retA_sound g1 g2 g3 hr g5
 | exit i => obtain ⟨Z', ρ', T', E', ds', loc', tmp', g1, g2, g3, g4, g5⟩ := hq; exact g5.elim
 | _ => exact hq.elim
def Vw (G : Nat -> AV) (T0 : Tbl) (K : AV -> Tbl -> Eff -> Prop) (v : AV) (T : Tbl) (E : Eff) (_ : Tag K := .mk) : Prop :=
 ∀ (Z0 : Heap) (ρ0 : List BI) (w0 : World) (Z : Heap) (ρ : List BI) (w : World) (x : Value), St Z0 ρ0 T0 w0 -> Frm G Z0 ρ0 T0 w0 Z ρ T w E -> Rel Z ρ v x -> Post Z0 ρ0 T0 w0 K x w
theorem Vw.done {v : AV} (h : K v T E) : Vw G T0 K v T E := fun Z0 ρ0 w0 Z ρ w x _ hf hr => ⟨Z, ρ, T, E, v, hf.st, hf.ext, hr, h⟩
theorem Vw.cut {v : AV} {l : Tbl} (h : K (v.wo (T0.length <= ·)) T0 E) : Vw G T0 K v (T0 ++ l) E := by
 intro Z0 ρ0 w0 Z ρ w x hs hf hr
 have hc := hf.cut T0.length (by rw [hs.len]; exact Nat.le_refl _)
 rw [List.take_left, hs.wf (fun i hi => by simp; omega)] at hc
 exact ⟨Z, _, T0, E, _, hc.st, hc.ext, hr.wo (hf.st.cut T0.length).2, h⟩
theorem Vw.cutN {v : AV} (n : Nat) (hn : T0.length <= n) (h : Vw G T0 K (v.wo (n <= ·)) ((T.take n).map (AObj.wo (n <= ·))) E) : Vw G T0 K v T E := by
 intro Z0 ρ0 w0 Z ρ w x hs hf hr
 exact h Z0 ρ0 w0 Z _ w x hs (hf.cut n (by rw [hs.len]; exact hn)) (hr.wo (hf.st.cut n).2)
theorem Vw.pub {v : AV} (i : Nat) {o : AObj} (hT : T[i]? = some o) (hc : o.cs = some cs) (hcl : ∀ a ∈ cs, a.Clean) (h : Vw G T0 K (v.pub i cs) ((T.map (AObj.pub i cs)).set i .gone) (rec1 T0.length i false E)) : Vw G T0 K v T E := by
 intro Z0 ρ0 w0 Z ρ w x hs hf hr
 obtain ⟨Z', h1, h2⟩ := hf.pub hT hc hcl
 rw [hs.len] at h1
 exact h Z0 ρ0 w0 Z' ρ w x hs h1 (h2 _ _ hr)
theorem CallA.enterV {f : FuncId} {fn : Func} {c : Code} {args : List AV} {m : Nat} {rs : List ResultVar} (n : Nat) (hf : P.funcs[f]? = some fn) (hm : fn.ntmps = m) (hrs : fn.results.toList = rs) (hb : fn.body = some c) (hn : (args.length <= n /\ n <= m)) (hok : codeOK m c = true) (hr : rsLt n rs = true)
 (h : codeA P G T.length none n m c [] (args ++ List.replicate (n - args.length) (.p undef)) [] T [] (retA P rs (Vw G T K)) (fun _ _ _ _ _ _ => False) (retA P rs (Vw G T K))) : CallA P G f args T K := by
 subst hm; subst hrs
 have := CallA.enter n hf hb hn hok hr h
 intro Z ρ w vs hG hs ha
 refine (this Z ρ w vs hG hs ha).mono fun x w' ⟨Z', ρ', T', es, a, h1, h2, h3, h4⟩ => ?_
 exact h4 Z ρ w Z' ρ' w' x hs ⟨hG.mono h2.le, h1, h2⟩ h3
theorem CallA.eV {f : FuncId} {fn : Func} {c : Code} {args : List AV} {m : Nat} {rs : List ResultVar} (n : Nat) (hf : P.funcs[f]? = some fn) (hm : fn.ntmps = m) (hrs : fn.results = List.toArray rs) (h : codeA P G T.length none n m c [] (args ++ List.replicate (n - args.length) (.p undef)) [] T [] (retA P rs (Vw G T K)) (fun _ _ _ _ _ _ => False) (retA P rs (Vw G T K)))
 (hb : fn.body = some c := by exact rfl) (hn : (args.length <= n /\ n <= m) := by exact ⟨by simp, by simp⟩) (hok : codeOK m c = true := by kernel_rfl) (hr : rsLt n rs = true := by kernel_rfl) : CallA P G f args T K := CallA.enterV n hf hm (congrArg Array.toList hrs) hb hn hok hr h
theorem CallA.mono {f : FuncId} {args : List AV} {K' : AV -> Tbl -> Eff -> Prop} (h : CallA P G f args T K) (hk : ∀ v T E, K v T E -> K' v T E) : CallA P G f args T K' := by
 intro Z ρ w vs hG hs ha
 refine (h Z ρ w vs hG hs ha).mono fun v w' ⟨Z', ρ', T', es, a, h1, h2, h3, h4⟩ => ⟨Z', ρ', T', es, a, h1, h2, h3, hk _ _ _ h4⟩
theorem CallA.wf {f : FuncId} {args : List AV} (h : (∀ q : Nat -> Bool, (∀ i, i < T.length -> q i = false) -> T.map (AObj.wo q) = T /\ args.map (AV.wo q) = args) -> CallA P G f args T K) : CallA P G f args T K := by
 intro Z ρ w vs hG hs ha
 exact h (fun q hq => ⟨hs.wf hq, ha.wo_eq (by rw [hs.len]; exact hq)⟩) Z ρ w vs hG hs ha
theorem CallA.det {f : FuncId} {args : List AV} {r : AV} (h : CallA P G f args T fun v T' es => v = r /\ T' = T /\ es = []) (hk : K r T []) : CallA P G f args T K :=
 h.mono fun v T' es ⟨h1, h2, h3⟩ => by subst h1; subst h2; subst h3; exact hk
end
end Go.E
namespace Go.E
theorem moved1 (i : Nat) : moved [(i, true)] = (· == i) := by funext j; simp only [moved, Bool.true_and, Bool.or_false]; rfl
theorem slots1 (i : Nat) (l : List AV) : slots [(i, true)] l = l.map (AV.wo (· == i)) := by show l.map (AV.wo (moved [(i, true)])) = _; rw [moved1]
theorem slotsT1 (i : Nat) (l : List (Nat × AV)) : slotsT [(i, true)] l = l.map fun p => (p.1, p.2.wo (· == i)) := by show (l.map fun p => (p.1, p.2.wo (moved [(i, true)]))) = _; rw [moved1]
theorem and_self_of {p q : Prop} (h : p) : (p /\ q) = q := by simp [h]
theorem get_app (a b : Tbl) (k : Nat) : (a ++ b)[a.length + k]? = b[k]? := by rw [List.getElem?_append_right (by omega)]; congr 1; omega
theorem get_app0 (a b : Tbl) : (a ++ b)[a.length]? = b[0]? := by rw [List.getElem?_append_right (by omega)]; congr 1; omega
theorem take_app (a b : Tbl) (k : Nat) : (a ++ b).take (a.length + k) = a ++ b.take k := by rw [List.take_append, List.take_of_length_le (by omega)]; congr 2; omega
theorem beq_app (n k j : Nat) : (n + k == n + j) = (k == j) := by rw [Bool.eq_iff_iff]; simp
set_option maxRecDepth 100000 in
theorem va :
 (∀ (t : Nat), lkA [] t = (AV.any)) /\
 (∀ (s : Nat) (a : AV) (r : List (Nat × AV)) (t : Nat), lkA ((s, a) :: r) t = (if t = s then a else lkA r t)) /\
 (∀ (G : Nat -> AV) (n : Nat) (loc : List AV) (tmp : List (Nat × AV)) (t : Nat), evA G n loc tmp (.tmp t) = (if t < n then loc.getD t .any else lkA tmp t)) /\
 (∀ (G : Nat -> AV) (n : Nat) (loc : List AV) (tmp : List (Nat × AV)) (v : Value), evA G n loc tmp (.const v) = (.p v)) /\
 (∀ (G : Nat -> AV) (n : Nat) (loc : List AV) (tmp : List (Nat × AV)) (g : Nat), evA G n loc tmp (.global g) = (G g)) /\
 (∀ (G : Nat -> AV) (n : Nat) (loc : List AV) (tmp : List (Nat × AV)) (f : Nat), evA G n loc tmp (.func f) = (.p (.func (.func f) #[] #[]))) /\
 (∀ (n : Nat) (a : AV) (loc : List AV) (tmp : List (Nat × AV)) (K2 : List AV -> List (Nat × AV) -> Prop), putA n none a loc tmp K2 = (K2 loc tmp)) /\
 (∀ (n : Nat) (d : Tmp) (a : AV) (loc : List AV) (tmp : List (Nat × AV)) (K2 : List AV -> List (Nat × AV) -> Prop), putA n (some d) a loc tmp K2 = (if d < n then K2 (loc.set d a) tmp else K2 loc ((d, a) :: tmp))) /\
 (∀ (l : List AV), slots [] l = (l)) /\
 (∀ (i : Nat) (l : List AV), slots [(i, false)] l = (l)) /\
 (∀ (i : Nat) (l : List AV), slots [(i, true)] l = (l.map (AV.wo (· == i)))) /\
 (∀ (tmp : List (Nat × AV)), slotsT [] tmp = (tmp)) /\
 (∀ (i : Nat) (tmp : List (Nat × AV)), slotsT [(i, false)] tmp = (tmp)) /\
 (∀ (i : Nat) (tmp : List (Nat × AV)), slotsT [(i, true)] tmp = (tmp.map fun p => (p.1, p.2.wo (· == i)))) /\
 (∀ (q : Nat -> Bool) (v : Value), AV.wo q (.p v) = (.p v)) /\
 (∀ (q : Nat -> Bool), AV.wo q .any = (.any)) /\
 (∀ (q : Nat -> Bool) (cs : List AV) (off : Nat), AV.wo q (.vp cs off) = (.vp cs off)) /\
 (∀ (q : Nat -> Bool) (cs : List AV) (n : Nat), AV.wo q (.vs cs n) = (.vs cs n)) /\
 (∀ (q : Nat -> Bool) (i : Nat) (off : Nat), AV.wo q (.ptr i off) = (if q i then .any else .ptr i off)) /\
 (∀ (q : Nat -> Bool) (i : Nat) (off : Nat) (n : Nat), AV.wo q (.sl i off n) = (if q i then .any else .sl i off n)) /\
 (∀ (q : Nat -> Bool) (cs : List AV), AV.wo q (.ag cs) = (.ag (cs.map (AV.wo q)))) /\
 (∀ (q : Nat -> Bool) (cs : List AV), AV.wo q (.tu cs) = (.tu (cs.map (AV.wo q)))) /\
 (∀ (q : Nat -> Bool) (ty : TypeId) (cs : List AV), AObj.wo q (.cells ty cs) = (.cells ty (cs.map (AV.wo q)))) /\
 (∀ (q : Nat -> Bool) (ty : TypeId) (sz : Nat) (cs : List AV), AObj.wo q (.buf ty sz cs) = (.buf ty sz (cs.map (AV.wo q)))) /\
 (∀ (q : Nat -> Bool), AObj.wo q .gone = (.gone)) /\
 (∀ (i : Nat) (cs : List AV) (v : Value), AV.pub i cs (.p v) = (.p v)) /\
 (∀ (i : Nat) (cs : List AV), AV.pub i cs .any = (.any)) /\
 (∀ (i : Nat) (cs : List AV) (l : List AV) (n : Nat), AV.pub i cs (.vs l n) = (.vs l n)) /\
 (∀ (i : Nat) (cs : List AV) (j : Nat) (off : Nat) (n : Nat), AV.pub i cs (.sl j off n) = (if j = i then .vs (if off = 0 then cs else cs.drop off) n else .sl j off n)) /\
 (∀ (i : Nat) (cs : List AV) (l : List AV), AV.pub i cs (.ag l) = (.ag (l.map (AV.pub i cs)))) /\
 (∀ (i : Nat) (cs : List AV) (l : List AV), AV.pub i cs (.tu l) = (.tu (l.map (AV.pub i cs)))) /\
 (∀ (i : Nat) (vs : List AV) (ty : TypeId) (cs : List AV), AObj.pub i vs (.cells ty cs) = (.cells ty (cs.map (AV.pub i vs)))) /\
 (∀ (i : Nat) (vs : List AV) (ty : TypeId) (sz : Nat) (cs : List AV), AObj.pub i vs (.buf ty sz cs) = (.buf ty sz (cs.map (AV.pub i vs)))) /\
 (∀ (i : Nat) (vs : List AV), AObj.pub i vs .gone = (.gone)) /\
 (∀ (n : Nat) (E : Eff), recE n [] E = (E)) /\
 (∀ (n : Nat) (i : Nat) (bb : Bool) (es : Eff) (E : Eff), recE n ((i, bb) :: es) E = (rec1 n i bb (recE n es E))) /\
 (∀ (n : Nat) (bb : Bool) (E : Eff), rec1 n n bb E = (E)) /\
 (∀ (n : Nat) (k : Nat) (bb : Bool) (E : Eff), rec1 n (n + k) bb E = (E)) /\
 (∀ (i : Nat) (bb : Bool) (E : Eff), rec1 0 i bb E = (E)) /\
 (∀ (ops : List Oper) (dd : Option Tmp) (o : Op) (ty : TypeId) (pos : String) (after : Array Edge) (look : Operand -> AV) (A : Prop) (B : Prop), grdA ops ⟨dd, o, ty, pos, after, none⟩ look A B = (A)) /\
 (∀ (ops : List Oper) (dd : Option Tmp) (o : Op) (ty : TypeId) (pos : String) (after : Array Edge) (j : Nat) (bb : Bool) (look : Operand -> AV) (A : Prop) (B : Prop), grdA ops ⟨dd, o, ty, pos, after, some (j, bb)⟩ look A B = (isP (gvaloA (ops[j]?) look) fun v => GuardP v bb A B)) /\
 (∀ (d : Tmp) (o : Op) (ty : TypeId) (pos : String) (after : Array Edge) (gd : Option (Nat × Bool)) (look : Operand -> AV), gvaloA (some ⟨some d, o, ty, pos, after, gd⟩) look = (look (.tmp d))) /\
 (∀ (v : Value) (KV : Value -> Prop), isP (.p v) KV = (KV v)) /\
 (∀ (P : Program) (G : Nat -> AV) (N : Nat) (n : Nat) (ops : List Oper) (ds : List AV) (loc : List AV) (tmp : List (Nat × AV)) (Tb : Tbl) (E : Eff) (K : AKont), opsA P G N n ops ds [] loc tmp Tb E K = (K ds loc tmp Tb E)) /\
 (∀ (P : Program) (G : Nat -> AV) (N : Nat) (n : Nat) (ops : List Oper) (ds : List AV) (dd : Option Tmp) (o : Op) (ty : TypeId) (pos : String) (after : Array Edge) (gd : Option (Nat × Bool)) (rs : List Oper) (loc : List AV) (tmp : List (Nat × AV)) (Tb : Tbl) (E : Eff) (K : AKont), opsA P G N n ops ds (⟨dd, o, ty, pos, after, gd⟩ :: rs) loc tmp Tb E K = (grdA ops ⟨dd, o, ty, pos, after, gd⟩ (evA G n loc tmp) (opA P G (evA G n loc tmp) o ty Tb fun v T' es => putA n dd v (slots es loc) (slotsT es tmp) fun loc tmp => opsA P G N n ops (slots es ds) rs loc tmp T' (recE N es E) K) (putA n dd (.p undef) loc tmp fun loc tmp => opsA P G N n ops ds rs loc tmp Tb E K))) /\
 (∀ (P : Program) (G : Nat -> AV) (N : Nat) (n : Nat) (ops : List Oper) (cl : Option Nat) (keep : Nat -> Bool) (ds : List AV) (loc : List AV) (tmp : List (Nat × AV)) (Tb : Tbl) (E : Eff) (K : AKont), planA P G N n ops cl keep ds [] loc tmp Tb E K = (K ds loc tmp Tb E)) /\
 (∀ (P : Program) (G : Nat -> AV) (N : Nat) (n : Nat) (ops : List Oper) (cl : Option Nat) (keep : Nat -> Bool) (ds : List AV) (i : Nat) (pl : List (Nat × Bool)) (loc : List AV) (tmp : List (Nat × AV)) (Tb : Tbl) (E : Eff) (K : AKont), planA P G N n ops cl keep ds ((i, true) :: pl) loc tmp Tb E K = (planOA ops ops[i]? (evA G n loc tmp) (fun o => rdF P (evA G n loc tmp) o.op o.type (keepT keep Tb) fun v => putA n o.dst v loc tmp fun loc tmp => planA P G N n ops cl keep ds pl loc tmp Tb E K) (fun o => putA n o.dst (.p undef) loc tmp fun loc tmp => planA P G N n ops cl keep ds pl loc tmp Tb E K))) /\
 (∀ (P : Program) (G : Nat -> AV) (N : Nat) (n : Nat) (ops : List Oper) (cl : Option Nat) (keep : Nat -> Bool) (ds : List AV) (i : Nat) (pl : List (Nat × Bool)) (loc : List AV) (tmp : List (Nat × AV)) (Tb : Tbl) (E : Eff) (K : AKont), planA P G N n ops cl keep ds ((i, false) :: pl) loc tmp Tb E K = (planOA ops ops[i]? (evA G n loc tmp) (fun o => opA P G (evA G n loc tmp) o.op o.type Tb fun v T' es => putA n o.dst v (slots es loc) (slotsT es tmp) fun loc tmp => (keepOK keep es = true ∨ pl = [] ∨ some i = cl) /\ planA P G N n ops cl keep (slots es ds) pl loc tmp T' (recE N es E) K) (fun o => putA n o.dst (.p undef) loc tmp fun loc tmp => planA P G N n ops cl keep ds pl loc tmp Tb E K))) /\
 (∀ (ops : List Oper) (oper : Oper) (look : Operand -> AV) (AO : Oper -> Prop) (BO : Oper -> Prop), planOA ops (some oper) look AO BO = (grdA ops oper look (AO oper) (BO oper))) /\
 (∀ (Tb : Tbl) (keep : Nat -> Bool) (i : Nat), (keepT keep Tb)[i]? = (Tb[i]?.map (keepO keep i))) /\
 (∀ (keep : Nat -> Bool), keepOK keep [] = (true)) /\
 (∀ (keep : Nat -> Bool) (i : Nat) (bb : Bool) (es : Eff), keepOK keep ((i, bb) :: es) = ((!keep i && keepOK keep es))) /\
 (∀ (e : TypeId) (pr_ : List (Nat × Operand)) (P : Program) (ρ : Operand -> AV) (ty : TypeId) (Tb : Tbl) (KA : AV -> Prop), rdF P ρ (.build e ⟨pr_⟩) ty Tb KA = (bldA P e (pr_.map fun p => (p.1, ρ p.2)) KA)) /\
 (∀ (xo : Operand) (P : Program) (ρ : Operand -> AV) (ty : TypeId) (Tb : Tbl) (KA : AV -> Prop), rdA P ρ (.move xo) ty Tb KA = (KA (ρ xo))) /\
 (∀ (xo : Operand) (P : Program) (ρ : Operand -> AV) (ty : TypeId) (Tb : Tbl) (KA : AV -> Prop), rdF P ρ (.move xo) ty Tb KA = (KA (ρ xo))) /\
 (∀ (xo : Operand) (P : Program) (ρ : Operand -> AV) (ty : TypeId) (Tb : Tbl) (KA : AV -> Prop), rdA P ρ (.assign xo) ty Tb KA = (KA (ρ xo))) /\
 (∀ (xo : Operand) (P : Program) (ρ : Operand -> AV) (ty : TypeId) (Tb : Tbl) (KA : AV -> Prop), rdF P ρ (.assign xo) ty Tb KA = (KA (ρ xo))) /\
 (∀ (xo : Operand) (yo : Operand) (zo : Operand) (P : Program) (ρ : Operand -> AV) (ty : TypeId) (Tb : Tbl) (KA : AV -> Prop), rdA P ρ (.pick xo yo zo) ty Tb KA = (bpA (ρ xo) (KA (ρ yo)) (KA (ρ zo)))) /\
 (∀ (t : Nat) (xo : Operand) (P : Program) (ρ : Operand -> AV) (ty : TypeId) (Tb : Tbl) (KA : AV -> Prop), rdA P ρ (.load t xo) ty Tb KA = (loadA P t (ρ xo) Tb KA)) /\
 (∀ (t : Nat) (xo : Operand) (P : Program) (ρ : Operand -> AV) (ty : TypeId) (Tb : Tbl) (KA : AV -> Prop), rdF P ρ (.load t xo) ty Tb KA = (loadA P t (ρ xo) Tb KA)) /\
 (∀ (xo : Operand) (P : Program) (ρ : Operand -> AV) (ty : TypeId) (Tb : Tbl) (KA : AV -> Prop), rdA P ρ (.nilCheck xo) ty Tb KA = (nilA (ρ xo) (KA (ρ xo)))) /\
 (∀ (xo : Operand) (P : Program) (ρ : Operand -> AV) (ty : TypeId) (Tb : Tbl) (KA : AV -> Prop), rdF P ρ (.nilCheck xo) ty Tb KA = (nilA (ρ xo) (KA (ρ xo)))) /\
 (∀ (op : BinOp) (t : Nat) (xo : Operand) (yo : Operand) (u_ : TypeId) (P : Program) (ρ : Operand -> AV) (ty : TypeId) (Tb : Tbl) (KA : AV -> Prop), rdA P ρ (.binOp op t xo yo u_) ty Tb KA = (bin2A P op t (ρ xo) (ρ yo) xo yo Tb KA)) /\
 (∀ (op : BinOp) (t : Nat) (xo : Operand) (yo : Operand) (u_ : TypeId) (P : Program) (ρ : Operand -> AV) (ty : TypeId) (Tb : Tbl) (KA : AV -> Prop), rdF P ρ (.binOp op t xo yo u_) ty Tb KA = (bin2A P op t (ρ xo) (ρ yo) xo yo Tb KA)) /\
 (∀ (uo : UnOp) (t : Nat) (xo : Operand) (P : Program) (ρ : Operand -> AV) (ty : TypeId) (Tb : Tbl) (KA : AV -> Prop), rdA P ρ (.unOp uo t xo) ty Tb KA = (isP (ρ xo) fun v => unV uo v (pureK P KA) fun v => KA (.p v))) /\
 (∀ (t : Nat) (xo : Operand) (yo : Operand) (bb : Bool) (P : Program) (ρ : Operand -> AV) (ty : TypeId) (Tb : Tbl) (KA : AV -> Prop), rdA P ρ (.lookup t xo yo bb) ty Tb KA = (lokA P (tk P t) (ρ xo) (ρ yo) bb Tb KA)) /\
 (∀ (s : Nat) (xo : Operand) (f : Nat) (P : Program) (ρ : Operand -> AV) (ty : TypeId) (Tb : Tbl) (KA : AV -> Prop), rdA P ρ (.fieldAddr s xo f) ty Tb KA = (fldA (tfo P s f) (ρ xo) KA)) /\
 (∀ (s : Nat) (xo : Operand) (f : Nat) (P : Program) (ρ : Operand -> AV) (ty : TypeId) (Tb : Tbl) (KA : AV -> Prop), rdF P ρ (.fieldAddr s xo f) ty Tb KA = (fldA (tfo P s f) (ρ xo) KA)) /\
 (∀ (t : Nat) (xo : Operand) (yo : Operand) (P : Program) (ρ : Operand -> AV) (ty : TypeId) (Tb : Tbl) (KA : AV -> Prop), rdA P ρ (.indexAddr t xo yo) ty Tb KA = (idxA P (tk P t) (ρ xo) (ρ yo) Tb KA)) /\
 (∀ (t : Nat) (xo : Operand) (yo : Operand) (P : Program) (ρ : Operand -> AV) (ty : TypeId) (Tb : Tbl) (KA : AV -> Prop), rdA P ρ (.index t xo yo) ty Tb KA = (ieA P (tk P t) (ρ xo) (ρ yo) KA)) /\
 (∀ (t : Nat) (xo : Operand) (lop : Option Operand) (hop : Option Operand) (mop : Option Operand) (P : Program) (ρ : Operand -> AV) (ty : TypeId) (Tb : Tbl) (KA : AV -> Prop), rdA P ρ (.slice t xo lop hop mop) ty Tb KA = (slcA P (tk P t) (ρ xo) (lop.map ρ) (hop.map ρ) (mop.map ρ) Tb KA)) /\
 (∀ (xo : Operand) (i : Nat) (P : Program) (ρ : Operand -> AV) (ty : TypeId) (Tb : Tbl) (KA : AV -> Prop), rdA P ρ (.extract xo i) ty Tb KA = (exA (ρ xo) i KA)) /\
 (∀ (g : Nat) (cap : Array Operand) (P : Program) (ρ : Operand -> AV) (ty : TypeId) (Tb : Tbl) (KA : AV -> Prop), rdA P ρ (.makeFunc (.func g) ⟨[]⟩ cap) ty Tb KA = (KA (.fn g (cap.toList.map ρ)))) /\
 (∀ (t : Nat) (xo : Operand) (P : Program) (ρ : Operand -> AV) (ty : TypeId) (Tb : Tbl) (KA : AV -> Prop), rdA P ρ (.makeInterface t xo) ty Tb KA = (mkiV (tk P t) t undef fun _ => KA (.ic t (ρ xo)))) /\
 (∀ (xo : Operand) (t : Nat) (P : Program) (ρ : Operand -> AV) (ty : TypeId) (Tb : Tbl) (KA : AV -> Prop), rdA P ρ (.call ⟨.builtin .len, ⟨[xo]⟩, ⟨[t]⟩⟩) ty Tb KA = (lnA (tk P t) (ρ xo) Tb KA)) /\
 (∀ (xo : Operand) (yo : Operand) (ts : Array TypeId) (P : Program) (ρ : Operand -> AV) (ty : TypeId) (Tb : Tbl) (KA : AV -> Prop), rdA P ρ (.call ⟨.builtin .min, ⟨[xo, yo]⟩, ts⟩) ty Tb KA = (isP (ρ xo) fun v => isP (ρ yo) fun u => pureK P KA (Builtin.min_ ts ty #[v, u]))) /\
 (∀ (e : TypeId) (P : Program) (G : Nat -> AV) (ρ : Operand -> AV) (ty : TypeId) (Tb : Tbl) (KE : AV -> Tbl -> Eff -> Prop), opA P G ρ (.alloc e) ty Tb KE = (getO (tzr P e) fun z => KE (.ptr Tb.length 0) (Tb ++ [.cells e (z.cells.toList.map .p)]) [])) /\
 (∀ (e : TypeId) (xo : Operand) (P : Program) (G : Nat -> AV) (ρ : Operand -> AV) (ty : TypeId) (Tb : Tbl) (KE : AV -> Tbl -> Eff -> Prop), opA P G ρ (.box e xo) ty Tb KE = (getO (ρ xo).known fun cs => KE (.ptr Tb.length 0) (Tb ++ [.cells e cs]) [])) /\
 (∀ (t : Nat) (xo : Operand) (yo : Operand) (P : Program) (G : Nat -> AV) (ρ : Operand -> AV) (ty : TypeId) (Tb : Tbl) (KE : AV -> Tbl -> Eff -> Prop), opA P G ρ (.store t xo yo) ty Tb KE = (storeA P t (ρ xo) (ρ yo) Tb KE)) /\
 (∀ (xo : Operand) (args : Array Operand) (ts : Array TypeId) (P : Program) (G : Nat -> AV) (ρ : Operand -> AV) (ty : TypeId) (Tb : Tbl) (KE : AV -> Tbl -> Eff -> Prop), opA P G ρ (.call ⟨.value xo, args, ts⟩) ty Tb KE = (callA P G (ρ xo) (args.toList.map ρ) Tb KE)) /\
 (∀ (xo : Operand) (yo : Operand) (t : Nat) (P : Program) (G : Nat -> AV) (ρ : Operand -> AV) (ty : TypeId) (Tb : Tbl) (KE : AV -> Tbl -> Eff -> Prop), opA P G ρ (.call ⟨.builtin .append, ⟨[xo, yo]⟩, ⟨[t, t]⟩⟩) ty Tb KE = (appA P (tk P t) (ρ xo) (ρ yo) Tb KE)) /\
 (∀ (xo : Operand) (yo : Operand) (t : Nat) (u_ : TypeId) (P : Program) (G : Nat -> AV) (ρ : Operand -> AV) (ty : TypeId) (Tb : Tbl) (KE : AV -> Tbl -> Eff -> Prop), opA P G ρ (.call ⟨.builtin .append, ⟨[xo, yo]⟩, ⟨[t, u_]⟩⟩) ty Tb KE = (if t = u_ then appA P (tk P t) (ρ xo) (ρ yo) Tb KE else appS P (tk P t) (tk P u_) (ρ xo) (ρ yo) Tb KE)) /\
 (∀ (e : TypeId) (k : Nat) (pr_ : List (Nat × Operand)) (P : Program) (G : Nat -> AV) (ρ : Operand -> AV) (ty : TypeId) (Tb : Tbl) (KE : AV -> Tbl -> Eff -> Prop), opA P G ρ (.buildSlice e k ⟨pr_⟩) ty Tb KE = (blsA P (tk P e) k (pr_.map fun p => (p.1, ρ p.2)) Tb KE)) /\
 (∀ (e : TypeId) (pr_ : List (Nat × Operand)) (P : Program) (G : Nat -> AV) (ρ : Operand -> AV) (ty : TypeId) (Tb : Tbl) (KE : AV -> Tbl -> Eff -> Prop), opA P G ρ (.build e ⟨pr_⟩) ty Tb KE = (bldA P e (pr_.map fun p => (p.1, ρ p.2)) fun a => KE a Tb [])) /\
 (∀ (xo : Operand) (P : Program) (G : Nat -> AV) (ρ : Operand -> AV) (ty : TypeId) (Tb : Tbl) (KE : AV -> Tbl -> Eff -> Prop), opA P G ρ (.move xo) ty Tb KE = (rdA P ρ (.move xo) ty Tb fun a => KE a Tb [])) /\
 (∀ (xo : Operand) (P : Program) (G : Nat -> AV) (ρ : Operand -> AV) (ty : TypeId) (Tb : Tbl) (KE : AV -> Tbl -> Eff -> Prop), opA P G ρ (.assign xo) ty Tb KE = (rdA P ρ (.assign xo) ty Tb fun a => KE a Tb [])) /\
 (∀ (xo : Operand) (yo : Operand) (zo : Operand) (P : Program) (G : Nat -> AV) (ρ : Operand -> AV) (ty : TypeId) (Tb : Tbl) (KE : AV -> Tbl -> Eff -> Prop), opA P G ρ (.pick xo yo zo) ty Tb KE = (rdA P ρ (.pick xo yo zo) ty Tb fun a => KE a Tb [])) /\
 (∀ (t : Nat) (xo : Operand) (P : Program) (G : Nat -> AV) (ρ : Operand -> AV) (ty : TypeId) (Tb : Tbl) (KE : AV -> Tbl -> Eff -> Prop), opA P G ρ (.load t xo) ty Tb KE = (rdA P ρ (.load t xo) ty Tb fun a => KE a Tb [])) /\
 (∀ (xo : Operand) (P : Program) (G : Nat -> AV) (ρ : Operand -> AV) (ty : TypeId) (Tb : Tbl) (KE : AV -> Tbl -> Eff -> Prop), opA P G ρ (.nilCheck xo) ty Tb KE = (rdA P ρ (.nilCheck xo) ty Tb fun a => KE a Tb [])) /\
 (∀ (op : BinOp) (t : Nat) (xo : Operand) (yo : Operand) (u_ : TypeId) (P : Program) (G : Nat -> AV) (ρ : Operand -> AV) (ty : TypeId) (Tb : Tbl) (KE : AV -> Tbl -> Eff -> Prop), opA P G ρ (.binOp op t xo yo u_) ty Tb KE = (rdA P ρ (.binOp op t xo yo u_) ty Tb fun a => KE a Tb [])) /\
 (∀ (uo : UnOp) (t : Nat) (xo : Operand) (P : Program) (G : Nat -> AV) (ρ : Operand -> AV) (ty : TypeId) (Tb : Tbl) (KE : AV -> Tbl -> Eff -> Prop), opA P G ρ (.unOp uo t xo) ty Tb KE = (rdA P ρ (.unOp uo t xo) ty Tb fun a => KE a Tb [])) /\
 (∀ (t : Nat) (xo : Operand) (yo : Operand) (bb : Bool) (P : Program) (G : Nat -> AV) (ρ : Operand -> AV) (ty : TypeId) (Tb : Tbl) (KE : AV -> Tbl -> Eff -> Prop), opA P G ρ (.lookup t xo yo bb) ty Tb KE = (rdA P ρ (.lookup t xo yo bb) ty Tb fun a => KE a Tb [])) /\
 (∀ (s : Nat) (xo : Operand) (f : Nat) (P : Program) (G : Nat -> AV) (ρ : Operand -> AV) (ty : TypeId) (Tb : Tbl) (KE : AV -> Tbl -> Eff -> Prop), opA P G ρ (.fieldAddr s xo f) ty Tb KE = (rdA P ρ (.fieldAddr s xo f) ty Tb fun a => KE a Tb [])) /\
 (∀ (t : Nat) (xo : Operand) (yo : Operand) (P : Program) (G : Nat -> AV) (ρ : Operand -> AV) (ty : TypeId) (Tb : Tbl) (KE : AV -> Tbl -> Eff -> Prop), opA P G ρ (.indexAddr t xo yo) ty Tb KE = (rdA P ρ (.indexAddr t xo yo) ty Tb fun a => KE a Tb [])) /\
 (∀ (t : Nat) (xo : Operand) (yo : Operand) (P : Program) (G : Nat -> AV) (ρ : Operand -> AV) (ty : TypeId) (Tb : Tbl) (KE : AV -> Tbl -> Eff -> Prop), opA P G ρ (.index t xo yo) ty Tb KE = (rdA P ρ (.index t xo yo) ty Tb fun a => KE a Tb [])) /\
 (∀ (t : Nat) (xo : Operand) (lop : Option Operand) (hop : Option Operand) (mop : Option Operand) (P : Program) (G : Nat -> AV) (ρ : Operand -> AV) (ty : TypeId) (Tb : Tbl) (KE : AV -> Tbl -> Eff -> Prop), opA P G ρ (.slice t xo lop hop mop) ty Tb KE = (rdA P ρ (.slice t xo lop hop mop) ty Tb fun a => KE a Tb [])) /\
 (∀ (xo : Operand) (i : Nat) (P : Program) (G : Nat -> AV) (ρ : Operand -> AV) (ty : TypeId) (Tb : Tbl) (KE : AV -> Tbl -> Eff -> Prop), opA P G ρ (.extract xo i) ty Tb KE = (rdA P ρ (.extract xo i) ty Tb fun a => KE a Tb [])) /\
 (∀ (g : Nat) (cap : Array Operand) (P : Program) (G : Nat -> AV) (ρ : Operand -> AV) (ty : TypeId) (Tb : Tbl) (KE : AV -> Tbl -> Eff -> Prop), opA P G ρ (.makeFunc (.func g) ⟨[]⟩ cap) ty Tb KE = (rdA P ρ (.makeFunc (.func g) ⟨[]⟩ cap) ty Tb fun a => KE a Tb [])) /\
 (∀ (t : Nat) (xo : Operand) (P : Program) (G : Nat -> AV) (ρ : Operand -> AV) (ty : TypeId) (Tb : Tbl) (KE : AV -> Tbl -> Eff -> Prop), opA P G ρ (.makeInterface t xo) ty Tb KE = (rdA P ρ (.makeInterface t xo) ty Tb fun a => KE a Tb [])) /\
 (∀ (xo : Operand) (t : Nat) (P : Program) (G : Nat -> AV) (ρ : Operand -> AV) (ty : TypeId) (Tb : Tbl) (KE : AV -> Tbl -> Eff -> Prop), opA P G ρ (.call ⟨.builtin .len, ⟨[xo]⟩, ⟨[t]⟩⟩) ty Tb KE = (rdA P ρ (.call ⟨.builtin .len, ⟨[xo]⟩, ⟨[t]⟩⟩) ty Tb fun a => KE a Tb [])) /\
 (∀ (P : Program) (t : Nat) (i : Nat) (off : Nat) (Tb : Tbl) (KA : AV -> Prop), loadA P t (.ptr i off) Tb KA = (csA Tb[i]? fun cs => getA (tak P t) (tsz P t) cs off KA)) /\
 (∀ (P : Program) (t : Nat) (cs : List AV) (off : Nat) (Tb : Tbl) (KA : AV -> Prop), loadA P t (.vp cs off) Tb KA = (getA (tak P t) (tsz P t) cs off KA)) /\
 (∀ (e : TypeId) (cs : List AV) (KC : List AV -> Prop), csA (some (.cells e cs)) KC = (KC cs)) /\
 (∀ (e : TypeId) (sz : Nat) (cs : List AV) (KC : List AV -> Prop), csA (some (.buf e sz cs)) KC = (KC cs)) /\
 (∀ (e : TypeId) (cs : List AV) (A : Prop), celA (some (.cells e cs)) A = (A)) /\
 (∀ (n : Nat) (cs : List AV) (off : Nat) (KA : AV -> Prop), getA (some false) n cs off KA = (getO cs[off]? KA)) /\
 (∀ (n : Nat) (cs : List AV) (off : Nat) (KA : AV -> Prop), getA (some true) n cs off KA = ((0 < n /\ off + n <= cs.length) /\ KA (.ag ((cs.drop off).take n)))) /\
 (∀ (a : AV) (KA : AV -> Prop), getO (some a) KA = (KA a)) /\
 (∀ (v : Value) (A : Prop) (B : Prop), bpA (.p v) A B = (CondP v A B)) /\
 (∀ (i : Nat) (off : Nat) (A : Prop), nilA (.ptr i off) A = (A)) /\
 (∀ (k : Nat) (i : Nat) (off : Nat) (KA : AV -> Prop), fldA (some k) (.ptr i off) KA = (KA (.ptr i (off + k)))) /\
 (∀ (P : Program) (e : TypeId) (a : AV) (b : AV) (Tb : Tbl) (KA : AV -> Prop), idxA P (.slice e) a b Tb KA = (if tsz P e = 0 then False else ixA (tsz P e) a b Tb KA)) /\
 (∀ (P : Program) (n : Nat) (e : TypeId) (a : AV) (b : AV) (Tb : Tbl) (KA : AV -> Prop), idxA P (.array n e) a b Tb KA = (if tsz P e = 0 then False else ixaA (tsz P e) n a b KA)) /\
 (∀ (sz : Nat) (j : Nat) (off : Nat) (n : Nat) (ik : IntKind) (z : Int) (Tb : Tbl) (KA : AV -> Prop), ixA sz (.sl j off n) (.p (.int ik z)) Tb KA = (csA Tb[j]? fun cs => (0 <= z /\ z < n /\ cs ≠ []) /\ KA (.ptr j (off + z.toNat * sz)))) /\
 (∀ (sz : Nat) (cs : List AV) (n : Nat) (ik : IntKind) (z : Int) (Tb : Tbl) (KA : AV -> Prop), ixA sz (.vs cs n) (.p (.int ik z)) Tb KA = ((0 <= z /\ z < n /\ cs ≠ []) /\ KA (.vp cs (z.toNat * sz)))) /\
 (∀ (sz : Nat) (n : Nat) (j : Nat) (off : Nat) (ik : IntKind) (z : Int) (KA : AV -> Prop), ixaA sz n (.ptr j off) (.p (.int ik z)) KA = ((0 <= z /\ z < n) /\ KA (.ptr j (off + z.toNat * sz)))) /\
 (∀ (sz : Nat) (n : Nat) (cs : List AV) (off : Nat) (ik : IntKind) (z : Int) (KA : AV -> Prop), ixaA sz n (.vp cs off) (.p (.int ik z)) KA = ((0 <= z /\ z < n) /\ KA (.vp cs (off + z.toNat * sz)))) /\
 (∀ (P : Program) (sb : ByteArray) (ik : IntKind) (z : Int) (KA : AV -> Prop), ieA P .string (.p (.string sb)) (.p (.int ik z)) KA = (0 <= z /\ getO sb[z.toNat]? fun b => KA (.p (.int .u8 b.toNat)))) /\
 (∀ (cs : List AV) (i : Nat) (KA : AV -> Prop), exA (.tu cs) i KA = (getO cs[i]? KA)) /\
 (∀ (s : Nat) (i : Nat) (off : Nat) (n : Nat) (Tb : Tbl) (KA : AV -> Prop), lnA (.slice s) (.sl i off n) Tb KA = (KA (.p (.int .i64 n)))) /\
 (∀ (s : Nat) (cs : List AV) (n : Nat) (Tb : Tbl) (KA : AV -> Prop), lnA (.slice s) (.vs cs n) Tb KA = (KA (.p (.int .i64 n)))) /\
 (∀ (sb : ByteArray) (Tb : Tbl) (KA : AV -> Prop), lnA .string (.p (.string sb)) Tb KA = (KA (.p (.int .i64 sb.size)))) /\
 (∀ (P : Program) (op : BinOp) (t : Nat) (u : Value) (v : Value) (xo : Operand) (yo : Operand) (KA : AV -> Prop), binA P op t (.p u) (.p v) xo yo KA = (binV P op t u v xo yo (pureK P KA) fun v => KA (.p v))) /\
 (∀ (v : Value), AV.flat (.p v) = (some v)) /\
 (∀ (P : Program) (e : TypeId) (a : AV) (lo : Option AV) (hi : Option AV) (Tb : Tbl) (KA : AV -> Prop), slcA P (.slice e) a lo hi none Tb KA = (if tsz P e = 0 then False else lenA a fun n => bdA hi n fun h => bdA lo 0 fun l => pcA (tsz P e) a l h Tb KA)) /\
 (∀ (P : Program) (n : Nat) (e : TypeId) (i : Nat) (off : Nat) (lo : Option AV) (hi : Option AV) (Tb : Tbl) (KA : AV -> Prop), slcA P (.array n e) (.ptr i off) lo hi none Tb KA = (if tsz P e = 0 then False else celA Tb[i]? (bdA hi n fun h => bdA lo 0 fun l => (l <= h /\ h <= n) /\ KA (.sl i (off + l * tsz P e) (h - l))))) /\
 (∀ (P : Program) (sb : ByteArray) (lo : Option AV) (hi : Option AV) (Tb : Tbl) (KA : AV -> Prop), slcA P .string (.p (.string sb)) lo hi none Tb KA = (bdA hi sb.size fun h => bdA lo 0 fun l => (l <= h /\ h <= sb.size) /\ KA (.p (.string (sb.extract l h))))) /\
 (∀ (n : Nat) (KN : Nat -> Prop), bdA none n KN = (KN n)) /\
 (∀ (ik : IntKind) (z : Int) (n : Nat) (KN : Nat -> Prop), bdA (some (.p (.int ik z))) n KN = (0 <= z /\ KN z.toNat)) /\
 (∀ (P : Program) (t : Nat) (i : Nat) (off : Nat) (x : AV) (Tb : Tbl) (KE : AV -> Tbl -> Eff -> Prop), storeA P t (.ptr i off) x Tb KE = (getO x.known fun vs => getO Tb[i]? fun o => stoA P t i off vs o Tb KE)) /\
 (∀ (P : Program) (t : Nat) (i : Nat) (off : Nat) (vs : List AV) (e : TypeId) (cs : List AV) (Tb : Tbl) (KE : AV -> Tbl -> Eff -> Prop), stoA P t i off vs (.cells e cs) Tb KE = ((tsz P t = vs.length /\ 0 < vs.length /\ off + vs.length <= cs.length /\ ones vs = true) /\ KE (.p undef) (Tb.set i (.cells e (wrA cs off vs))) [(i, false)])) /\
 (∀ (P : Program) (t : Nat) (i : Nat) (off : Nat) (vs : List AV) (e : TypeId) (sz : Nat) (cs : List AV) (Tb : Tbl) (KE : AV -> Tbl -> Eff -> Prop), stoA P t i off vs (.buf e sz cs) Tb KE = ((tsz P t = vs.length /\ 0 < vs.length /\ off + vs.length <= cs.length /\ ones vs = true) /\ KE (.p undef) (Tb.set i (.buf e sz (wrA cs off vs))) [(i, false)])) /\
 (∀ (cs : List AV) (k : Nat) (a : AV), wrA cs k [a] = (cs.set k a)) /\
 (∀ (ik : IntKind) (z : Int), AV.known (.p (.int ik z)) = (some [.p (.int ik z)])) /\
 (∀ (bb : Bool), AV.known (.p (.bool bb)) = (some [.p (.bool bb)])) /\
 (∀ (sb : ByteArray), AV.known (.p (.string sb)) = (some [.p (.string sb)])) /\
 (AV.known (.p .nilFunc) = (some [.p .nilFunc])) /\
 (AV.known (.p .nilIface) = (some [.p .nilIface])) /\
 (∀ (cs : List AV), AV.known (.ag cs) = (some cs)) /\
 (∀ (va : Array Value), Value.cells (.agg va) = (va)) /\
 (∀ (ik : IntKind) (z : Int), Value.cells (.int ik z) = (#[.int ik z])) /\
 (∀ (bb : Bool), Value.cells (.bool bb) = (#[.bool bb])) /\
 (∀ (sb : ByteArray), Value.cells (.string sb) = (#[.string sb])) /\
 (∀ (va : Array Value), (va.toList.toArray) = (va)) /\
 (∀ (i : Nat) (off : Nat), AV.one (.ptr i off) = (true)) /\
 (∀ (i : Nat) (off : Nat) (n : Nat), AV.known (.sl i off n) = (some [.sl i off n])) /\
 (∀ (i : Nat) (off : Nat) (n : Nat), AV.one (.sl i off n) = (true)) /\
 (∀ (cs : List AV) (n : Nat), AV.one (.vs cs n) = (true)) /\
 (∀ (f : Nat) (cs : List AV), AV.one (.fn f cs) = (true)) /\
 (∀ (ty : TypeId) (a : AV), AV.one (.ic ty a) = (true)) /\
 (∀ (i : Nat), AV.known (.mp i) = (some [.mp i])) /\
 (∀ (i : Nat), AV.one (.mp i) = (true)) /\
 (∀ (i : Nat), AV.known (.yl i) = (some [.yl i])) /\
 (∀ (i : Nat), AV.one (.yl i) = (true)) /\
 (∀ (v : Value), AV.one (.p v) = (v.oneCell')) /\
 (ones [] = (true)) /\
 (∀ (a : AV) (l : List AV), ones (a :: l) = ((a.one && ones l))) /\
 (∀ (ik : IntKind) (z : Int), Value.oneCell' (.int ik z) = (true)) /\
 (∀ (bb : Bool), Value.oneCell' (.bool bb) = (true)) /\
 (∀ (sb : ByteArray), Value.oneCell' (.string sb) = (true)) /\
 (∀ (ad : Option Addr) (n : Nat) (k : Nat), Value.oneCell' (.slice ad n k) = (true)) /\
 (∀ (on : Option Nat), Value.oneCell' (.map on) = (true)) /\
 (Value.oneCell' (.nilFunc) = (true)) /\
 (Value.oneCell' (.nilIface) = (true)) /\
 (∀ (sz : Nat) (cs : List AV) (n : Nat) (Tb : Tbl) (KCN : List AV -> Nat -> Prop), srcA sz (.vs cs n) Tb KCN = (cs.length = n * sz /\ KCN cs n)) /\
 (∀ (sz : Nat) (i : Nat) (off : Nat) (n : Nat) (Tb : Tbl) (KCN : List AV -> Nat -> Prop), srcA sz (.sl i off n) Tb KCN = (csA Tb[i]? fun cs => off + n * sz <= cs.length /\ KCN ((cs.drop off).take (n * sz)) n)) /\
 (∀ (P : Program) (e : TypeId) (a : AV) (sb : ByteArray) (Tb : Tbl) (KE : AV -> Tbl -> Eff -> Prop), appS P (.slice e) .string a (.p (.string sb)) Tb KE = ((tsz P e = 1 /\ tby P e = 1 /\ tzr P e = some (.int .u8 0)) /\ appB P e a (sb.data.toList.map fun b => .p (.int .u8 (b.toNat : Int))) sb.size Tb KE)) /\
 (∀ (P : Program) (e : TypeId) (a : AV) (y : AV) (Tb : Tbl) (KE : AV -> Tbl -> Eff -> Prop), appA P (.slice e) a y Tb KE = (if tsz P e = 0 then False else getO (tzr P e) fun z => z.cells.size = tsz P e /\ srcA (tsz P e) y Tb fun ys m => ones ys = true /\ appB P e a ys m Tb KE)) /\
 (∀ (P : Program) (e : TypeId) (i : Nat) (off : Nat) (n : Nat) (l : List AV) (m : Nat) (Tb : Tbl) (KE : AV -> Tbl -> Eff -> Prop), appB P e (.sl i off n) l m Tb KE = (getO Tb[i]? fun o => appC P e i off n l m o Tb KE)) /\
 (∀ (P : Program) (e : TypeId) (f : Nat) (i : Nat) (off : Nat) (n : Nat) (l : List AV) (m : Nat) (sz : Nat) (cs : List AV) (Tb : Tbl) (KE : AV -> Tbl -> Eff -> Prop), appC P e i off n l m (.buf f sz cs) Tb KE = ((f = e /\ sz = tsz P e /\ off = 0 /\ cs.length = n * sz /\ lim P e (n + m)) /\ KE (.sl i 0 (n + m)) ((Tb.map (AObj.wo (· == i))).set i (.buf e sz ((cs ++ l).map (AV.wo (· == i))))) [(i, true)])) /\
 (∀ (P : Program) (G : Nat -> AV) (g : Nat) (args_ : List AV) (Tb : Tbl) (KE : AV -> Tbl -> Eff -> Prop), callA P G (.p (.func (.func g) ⟨[]⟩ ⟨[]⟩)) args_ Tb KE = (callF (entered P g) P G g args_ Tb KE)) /\
 (∀ (P : Program) (G : Nat -> AV) (g : Nat) (cs : List AV) (args_ : List AV) (Tb : Tbl) (KE : AV -> Tbl -> Eff -> Prop), callA P G (.fn g cs) args_ Tb KE = (callF (entered P g) P G g (args_ ++ cs) Tb KE)) /\
 (∀ (P : Program) (G : Nat -> AV) (g : Nat) (args_ : List AV) (Tb : Tbl) (KE : AV -> Tbl -> Eff -> Prop), callF true P G g args_ Tb KE = (CallA P G g args_ Tb KE)) /\
 (∀ (P : Program) (G : Nat -> AV) (g : Nat) (args_ : List AV) (Tb : Tbl) (KE : AV -> Tbl -> Eff -> Prop), callF false P G g args_ Tb KE = (ExtA P G g args_ Tb KE)) /\
 (∀ (P : Program) (G : Nat -> AV) (N : Nat) (ro : Option Nat) (n : Nat) (m : Nat) (ds : List AV) (loc : List AV) (tmp : List (Nat × AV)) (Tb : Tbl) (E : Eff) (Nk : AKont) (X : Nat -> AKont) (R : AKont), codeA P G N ro n m (.skip) ds loc tmp Tb E Nk X R = (Nk ds loc tmp Tb E)) /\
 (∀ (i : Nat) (aops : Array Oper) (P : Program) (G : Nat -> AV) (N : Nat) (ro : Option Nat) (n : Nat) (m : Nat) (ds : List AV) (loc : List AV) (tmp : List (Nat × AV)) (Tb : Tbl) (E : Eff) (Nk : AKont) (X : Nat -> AKont) (R : AKont), codeA P G N ro n m (.region i aops true) ds loc tmp Tb E Nk X R = (SemA P G N ro n m (.region i aops true) ds loc [] Tb E Nk X R)) /\
 (∀ (i : Nat) (aops : Array Oper) (P : Program) (G : Nat -> AV) (N : Nat) (ro : Option Nat) (n : Nat) (m : Nat) (ds : List AV) (loc : List AV) (tmp : List (Nat × AV)) (Tb : Tbl) (E : Eff) (Nk : AKont) (X : Nat -> AKont) (R : AKont), codeA P G N ro n m (.region i aops false) ds loc tmp Tb E Nk X R = (opsA P G N n aops.toList ds aops.toList loc [] Tb E Nk)) /\
 (∀ (c1 : Code) (c2 : Code) (P : Program) (G : Nat -> AV) (N : Nat) (ro : Option Nat) (n : Nat) (m : Nat) (ds : List AV) (loc : List AV) (tmp : List (Nat × AV)) (Tb : Tbl) (E : Eff) (Nk : AKont) (X : Nat -> AKont) (R : AKont), codeA P G N ro n m (.seq c1 c2) ds loc tmp Tb E Nk X R = (codeA P G N ro n m c1 ds loc tmp Tb E (fun ds loc tmp T E => codeA P G N ro n m c2 ds loc tmp T E Nk X R) X R)) /\
 (∀ (xo : Operand) (c1 : Code) (c2 : Code) (P : Program) (G : Nat -> AV) (N : Nat) (ro : Option Nat) (n : Nat) (m : Nat) (ds : List AV) (loc : List AV) (tmp : List (Nat × AV)) (Tb : Tbl) (E : Eff) (Nk : AKont) (X : Nat -> AKont) (R : AKont), codeA P G N ro n m (.cond xo c1 c2) ds loc tmp Tb E Nk X R = (bpA (evA G n loc tmp xo) (codeA P G N ro n m c1 ds loc tmp Tb E Nk X R) (codeA P G N ro n m c2 ds loc tmp Tb E Nk X R))) /\
 (∀ (i : Nat) (c1 : Code) (P : Program) (G : Nat -> AV) (N : Nat) (ro : Option Nat) (n : Nat) (m : Nat) (ds : List AV) (loc : List AV) (tmp : List (Nat × AV)) (Tb : Tbl) (E : Eff) (Nk : AKont) (X : Nat -> AKont) (R : AKont), codeA P G N ro n m (.block i c1) ds loc tmp Tb E Nk X R = (codeA P G N ro n m c1 ds loc tmp Tb E Nk (fun j => if j = i then Nk else X j) R)) /\
 (∀ (c1 : Code) (P : Program) (G : Nat -> AV) (N : Nat) (ro : Option Nat) (n : Nat) (m : Nat) (ds : List AV) (loc : List AV) (tmp : List (Nat × AV)) (Tb : Tbl) (E : Eff) (Nk : AKont) (X : Nat -> AKont) (R : AKont), codeA P G N ro n m (.loop c1) ds loc tmp Tb E Nk X R = (SemA P G N ro n m (.loop c1) ds loc [] Tb E Nk X R)) /\
 (∀ (i : Nat) (P : Program) (G : Nat -> AV) (N : Nat) (ro : Option Nat) (n : Nat) (m : Nat) (ds : List AV) (loc : List AV) (tmp : List (Nat × AV)) (Tb : Tbl) (E : Eff) (Nk : AKont) (X : Nat -> AKont) (R : AKont), codeA P G N ro n m (.exit i) ds loc tmp Tb E Nk X R = (X i ds loc tmp Tb E)) /\
 (∀ (P : Program) (G : Nat -> AV) (N : Nat) (ro : Option Nat) (n : Nat) (m : Nat) (ds : List AV) (loc : List AV) (tmp : List (Nat × AV)) (Tb : Tbl) (E : Eff) (Nk : AKont) (X : Nat -> AKont) (R : AKont), codeA P G N ro n m (.ret) ds loc tmp Tb E Nk X R = (R ds loc tmp Tb E)) /\
 (∀ (P : Program) (rv : List ResultVar) (KE : AV -> Tbl -> Eff -> Prop) (loc : List AV) (tmp : List (Nat × AV)) (Tb : Tbl) (E : Eff), retA P rv KE [] loc tmp Tb E = (resA P rv loc Tb fun v => KE v Tb E)) /\
 (∀ (A : Prop), defO (.raw (.deferred (some []))) A = (A)) /\
 (∀ (P : Program) (loc : List AV) (Tb : Tbl) (KA : AV -> Prop), resA P [] loc Tb KA = (KA (.tu []))) /\
 (∀ (P : Program) (t : Nat) (loc : List AV) (Tb : Tbl) (KA : AV -> Prop), resA P [.tmp t] loc Tb KA = (KA (loc.getD t .any))) /\
 (∀ (P : Program) (t : Nat) (s : Nat) (loc : List AV) (Tb : Tbl) (KA : AV -> Prop), resA P [.tmp t, .tmp s] loc Tb KA = (KA (.tu [loc.getD t .any, loc.getD s .any]))) /\
 (∀ (P : Program) (t : Nat) (e : TypeId) (loc : List AV) (Tb : Tbl) (KA : AV -> Prop), resA P [.cell t e] loc Tb KA = (loadA P e (loc.getD t .any) Tb KA)) /\
 (∀ (a : AV) (l : List AV) (x : AV), List.getD (a :: l) 0 x = (a)) /\
 (∀ (a : AV) (l : List AV) (k : Nat) (x : AV), List.getD (a :: l) (k + 1) x = (List.getD l k x)) /\
 (∀ (k : Nat) (x : AV), List.getD [] k x = (x)) /\
 (∀ (a : AV) (l : List AV) (b : AV), List.set (a :: l) 0 b = (b :: l)) /\
 (∀ (a : AV) (l : List AV) (b : AV) (k : Nat), List.set (a :: l) (k + 1) b = (a :: List.set l k b)) /\
 (∀ (a : AV) (l : List AV), (a :: l)[0]? = (some a)) /\
 (∀ (a : AV) (l : List AV) (k : Nat), (a :: l)[k + 1]? = (l[k]?)) /\
 (∀ (a : AV) (l : List AV), (a :: l).length = (l.length + 1)) /\
 (([] : List AV).length = (0)) /\
 (∀ (l : List AV), [] ++ l = (l)) /\
 (∀ (l : List AV), l ++ [] = (l)) /\
 (∀ (a : AV) (l : List AV) (l2 : List AV), (a :: l) ++ l2 = (a :: (l ++ l2))) /\
 (∀ (ob : AObj) (tb : Tbl) (oc : AObj), List.set (ob :: tb) 0 oc = (oc :: tb)) /\
 (∀ (ob : AObj) (tb : Tbl) (oc : AObj) (k : Nat), List.set (ob :: tb) (k + 1) oc = (ob :: List.set tb k oc)) /\
 (∀ (ob : AObj) (tb : Tbl), (ob :: tb)[0]? = (some ob)) /\
 (∀ (ob : AObj) (tb : Tbl) (k : Nat), (ob :: tb)[k + 1]? = (tb[k]?)) /\
 (∀ (ob : AObj) (tb : Tbl), (ob :: tb).length = (tb.length + 1)) /\
 (([] : List AObj).length = (0)) /\
 (∀ (tb : Tbl), [] ++ tb = (tb)) /\
 (∀ (tb : Tbl), tb ++ [] = (tb)) /\
 (∀ (ob : AObj) (tb : Tbl) (tb2 : Tbl), (ob :: tb) ++ tb2 = (ob :: (tb ++ tb2))) /\
 (∀ (a : AV), List.replicate 0 a = ([])) /\
 (∀ (a : AV) (k : Nat), List.replicate (k + 1) a = (a :: List.replicate k a)) /\
 (∀ (tb : Tbl) (tb2 : Tbl) (tb3 : Tbl), (tb ++ tb2) ++ tb3 = (tb ++ (tb2 ++ tb3))) /\
 (∀ (tb : Tbl) (tb2 : Tbl), (tb ++ tb2).length = (tb.length + tb2.length)) /\
 (∀ (tb : Tbl) (k : Nat) (ob : AObj), (tb.set k ob).length = (tb.length)) /\
 (∀ (tb : Tbl) (tb2 : Tbl) (k : Nat), (tb ++ tb2)[tb.length + k]? = (tb2[k]?)) /\
 (∀ (tb : Tbl) (tb2 : Tbl), (tb ++ tb2)[tb.length]? = (tb2[0]?)) /\
 (∀ (tb : Tbl) (tb2 : Tbl) (k : Nat) (ob : AObj), (tb ++ tb2).set (tb.length + k) ob = (tb ++ tb2.set k ob)) /\
 (∀ (tb : Tbl) (tb2 : Tbl) (ob : AObj), (tb ++ tb2).set tb.length ob = (tb ++ tb2.set 0 ob)) /\
 (∀ (n : Nat) (k : Nat) (j : Nat), n + k + j = (n + (k + j))) /\
 (∀ (qo : AObj -> AObj) (tb : Tbl) (tb2 : Tbl), (tb ++ tb2).map qo = (tb.map qo ++ tb2.map qo)) /\
 (∀ (qo : AObj -> AObj) (ob : AObj) (tb : Tbl), List.map qo (ob :: tb) = (qo ob :: List.map qo tb)) /\
 (∀ (qo : AObj -> AObj), List.map qo [] = ([])) /\
 (∀ (qa : AV -> AV) (a : AV) (l : List AV), List.map qa (a :: l) = (qa a :: List.map qa l)) /\
 (∀ (qa : AV -> AV), List.map qa [] = ([])) /\
 (∀ (qp : Nat × AV -> Nat × AV), List.map qp [] = ([])) /\
 (∀ (qp : Nat × AV -> Nat × AV) (pa : Nat×AV) (r : List (Nat × AV)), List.map qp (pa :: r) = (qp pa :: List.map qp r)) /\
 (∀ (fo : Operand -> AV), List.map fo [] = ([])) /\
 (∀ (fo : Operand -> AV) (xo : Operand) (lo_ : List Operand), List.map fo (xo :: lo_) = (fo xo :: List.map fo lo_)) /\
 (∀ (fo : Operand -> AV), Option.map fo none = (none)) /\
 (∀ (fp : Nat×Operand->Nat×AV), List.map fp [] = ([])) /\
 (∀ (fp : Nat×Operand->Nat×AV) (po : Nat×Operand) (pr_ : List (Nat × Operand)), List.map fp (po :: pr_) = (fp po :: List.map fp pr_)) /\
 (∀ (fv : Value->AV), List.map fv [] = ([])) /\
 (∀ (fv : Value->AV) (v : Value) (lv : List Value), List.map fv (v :: lv) = (fv v :: List.map fv lv)) /\
 (∀ (l : List Value), (List.toArray l).toList = (l)) /\
 (∀ (lo_ : List Operand), (List.toArray lo_).toList = (lo_)) /\
 (∀ (lo_ : List Oper), (List.toArray lo_).toList = (lo_)) /\
 (∀ (tb : Tbl), tb.take tb.length = (tb)) /\
 (∀ (tb : Tbl) (tb2 : Tbl), (tb ++ tb2).take tb.length = (tb)) /\
 (∀ (tb : Tbl), List.take 0 tb = ([])) /\
 (∀ (ob : AObj) (tb : Tbl) (k : Nat), List.take (k + 1) (ob :: tb) = (ob :: List.take k tb)) /\
 (∀ (o_ : Oper) (lop_ : List Oper), (o_ :: lop_)[0]? = (some o_)) /\
 (∀ (o_ : Oper) (lop_ : List Oper) (k : Nat), (o_ :: lop_)[k + 1]? = (lop_[k]?)) /\
 (∀ (P : Program) (e : TypeId) (n : Nat), lim P e n = ((n * tby P e <= 140737488355328 /\ n <= 140737488355328))) /\
 (∀ (P : Program) (k : Nat) (t : Nat) (pr : List (Nat × AV)) (KE : AV -> Tbl -> Eff -> Prop) (Tb : Tbl), blsA P (.slice t) k pr Tb KE = (if tsz P t = 0 then False else getO (tzr P t) fun z => (z.cells.size = tsz P t /\ k * tsz P t <= 16777216) /\ getO (fillA (tsz P t) (List.replicate k (z.cells.toList.map AV.p)).flatten pr) fun cs => KE (.sl Tb.length 0 k) (Tb ++ [.buf t (tsz P t) cs]) [])) /\
 (∀ (sz : Nat) (cs : List AV), fillA sz cs [] = (some cs)) /\
 (∀ (sz : Nat) (cs : List AV) (i : Nat) (a : AV) (r : List (Nat × AV)), fillA sz cs ((i, a) :: r) = (fillB sz cs i a.known r)) /\
 (∀ (sz : Nat) (cs : List AV) (i : Nat) (vs : List AV) (r : List (Nat × AV)), fillB sz cs i (some vs) r = (if vs.length = sz /\ i * sz + vs.length <= cs.length then fillA sz (wrA cs (i * sz) vs) r else none)) /\
 (∀ (P : Program) (t : Nat) (pr : List (Nat × AV)) (KA : AV -> Prop), bldA P t pr KA = (getO (tzr P t) fun z => bldC P t (tst P t) (z.cells.toList.map AV.p) pr KA)) /\
 (∀ (P : Program) (t : Nat) (cs : List AV) (pr : List (Nat × AV)) (KA : AV -> Prop), bldC P t true cs pr KA = (getO (fillS P t cs pr) fun cs => KA (.ag cs))) /\
 (∀ (P : Program) (t : Nat) (cs : List AV), fillS P t cs [] = (some cs)) /\
 (∀ (P : Program) (t : Nat) (cs : List AV) (i : Nat) (a : AV) (r : List (Nat × AV)), fillS P t cs ((i, a) :: r) = (fillT P t cs (tff P t i) a.known r)) /\
 (∀ (P : Program) (t : Nat) (cs : List AV) (off : Nat) (e : TypeId) (vs : List AV) (r : List (Nat × AV)), fillT P t cs (some (off, e)) (some vs) r = (if vs.length = tsz P e /\ off + vs.length <= cs.length then fillS P t (wrA cs off vs) r else none)) /\
 (∀ (s : Nat) (t : Nat) (xo : Operand) (P : Program) (G : Nat -> AV) (ρ : Operand -> AV) (ty : TypeId) (Tb : Tbl) (KE : AV -> Tbl -> Eff -> Prop), opA P G ρ (.convert s t xo) ty Tb KE = (cvoA P (tk P s) (tk P t) s t (ρ xo) Tb KE)) /\
 (∀ (P : Program) (el : TypeId) (s : Nat) (t : Nat) (sb : ByteArray) (Tb : Tbl) (KE : AV -> Tbl -> Eff -> Prop), cvoA P .string (.slice el) s t (.p (.string sb)) Tb KE = (tk P el = .int .u8 /\ KE (.vs (sb.data.toList.map fun b => .p (.int .u8 (b.toNat : Int))) sb.size) Tb [])) /\
 (∀ (P : Program) (el : TypeId) (e : TypeId) (s : Nat) (t : Nat) (i : Nat) (off : Nat) (n : Nat) (Tb : Tbl) (KE : AV -> Tbl -> Eff -> Prop), cvoA P (.slice el) (.slice e) s t (.sl i off n) Tb KE = ((s = t /\ tk P e = .int .u8) /\ mkbA i off n Tb[i]? Tb KE)) /\
 (∀ (i : Nat) (off : Nat) (n : Nat) (e : TypeId) (sz : Nat) (cs : List AV) (Tb : Tbl) (KE : AV -> Tbl -> Eff -> Prop), mkbA i off n (some (.buf e sz cs)) Tb KE = ((allP cs = true /\ cs ≠ [] /\ (0 < n ∨ off = 0)) /\ KE ((AV.sl i off n).pub i cs) ((Tb.map (AObj.pub i cs)).set i .gone) [(i, false)])) /\
 (allP [] = (true)) /\
 (∀ (P : Program) (ik : IntKind) (dsc : TypeDesc) (s : Nat) (t : Nat) (a : AV) (Tb : Tbl) (KE : AV -> Tbl -> Eff -> Prop), cvoA P (.int ik) dsc s t a Tb KE = (cnvA P (.int ik) dsc s t a Tb fun a => KE a Tb [])) /\
 (∀ (P : Program) (el : TypeId) (s : Nat) (t : Nat) (a : AV) (Tb : Tbl) (KE : AV -> Tbl -> Eff -> Prop), cvoA P (.slice el) .string s t a Tb KE = (cnvA P (.slice el) .string s t a Tb fun a => KE a Tb [])) /\
 (∀ (t : Nat) (xo : Operand) (P : Program) (G : Nat -> AV) (ρ : Operand -> AV) (ty : TypeId) (Tb : Tbl) (KE : AV -> Tbl -> Eff -> Prop), opA P G ρ (.makeMap t (some xo)) ty Tb KE = (mkmA P (tk P t) (some (ρ xo)) Tb KE)) /\
 (∀ (t : Nat) (xo : Operand) (yo : Operand) (zo : Operand) (P : Program) (G : Nat -> AV) (ρ : Operand -> AV) (ty : TypeId) (Tb : Tbl) (KE : AV -> Tbl -> Eff -> Prop), opA P G ρ (.mapUpdate t xo yo zo) ty Tb KE = (mupA P (tk P t) (ρ xo) (ρ yo) (ρ zo) Tb KE)) /\
 (∀ (P : Program) (e : TypeId) (el : TypeId) (ik : IntKind) (z : Int) (Tb : Tbl) (KE : AV -> Tbl -> Eff -> Prop), mkmA P (.map e el) (some (.p (.int ik z))) Tb KE = (KE (.mp Tb.length) (Tb ++ [.map []]) [])) /\
 (∀ (P : Program) (e : TypeId) (el : TypeId) (a : AV) (x : AV) (y : AV) (Tb : Tbl) (KE : AV -> Tbl -> Eff -> Prop), mupA P (.map e el) a x y Tb KE = (getO x.flat fun k => mupB P e a k y Tb KE)) /\
 (∀ (P : Program) (e : TypeId) (i : Nat) (kv : Value) (y : AV) (Tb : Tbl) (KE : AV -> Tbl -> Eff -> Prop), mupB P e (.mp i) kv y Tb KE = (getO Tb[i]? fun o => mupC P e i kv y o Tb KE)) /\
 (∀ (P : Program) (e : TypeId) (i : Nat) (kv : Value) (y : AV) (mm : List (Value × AV)) (Tb : Tbl) (KE : AV -> Tbl -> Eff -> Prop), mupC P e i kv y (.map mm) Tb KE = (mapKO P e mm kv /\ KE (.p undef) (Tb.set i (.map (mset mm kv y))) [(i, false)])) /\
 (∀ (P : Program) (e : TypeId) (el : TypeId) (a : AV) (x : AV) (bb : Bool) (Tb : Tbl) (KA : AV -> Prop), lokA P (.map e el) a x bb Tb KA = (getO x.flat fun k => getO (tzr P el) fun z => lokB P e a k bb z Tb KA)) /\
 (∀ (P : Program) (e : TypeId) (i : Nat) (kv : Value) (bb : Bool) (v : Value) (Tb : Tbl) (KA : AV -> Prop), lokB P e (.mp i) kv bb v Tb KA = (lokC P e Tb[i]? kv bb v KA)) /\
 (∀ (P : Program) (e : TypeId) (mm : List (Value × AV)) (kv : Value) (bb : Bool) (v : Value) (KA : AV -> Prop), lokC P e (some (.map mm)) kv bb v KA = (mapKO P e mm kv /\ lkK bb (mfind mm kv) v KA)) /\
 (∀ (a : AV) (v : Value) (KA : AV -> Prop), lkK true (some a) v KA = (KA (.tu [a, .p (.bool true)]))) /\
 (∀ (v : Value) (KA : AV -> Prop), lkK true none v KA = (KA (.tu [.p v, .p (.bool false)]))) /\
 (∀ (P : Program) (el : TypeId) (s : Nat) (t : Nat) (a : AV) (Tb : Tbl) (KA : AV -> Prop), cnvA P (.slice el) .string s t a Tb KA = (tk P el = .int .u8 /\ srcA 1 a Tb fun cs _ => getO (bytesA cs) fun bs => KA (.p (.string ⟨bs.toArray⟩)))) /\
 (∀ (P : Program) (ik : IntKind) (dsc : TypeDesc) (s : Nat) (t : Nat) (a : AV) (Tb : Tbl) (KA : AV -> Prop), cnvA P (.int ik) dsc s t a Tb KA = (isP a fun v => convV (.int ik) dsc s t v (pureK P KA) fun v => KA (.p v))) /\
 (∀ (P : Program) (op : BinOp) (t : Nat) (v : Value) (b : AV) (xo : Operand) (yo : Operand) (Tb : Tbl) (KA : AV -> Prop), bin2A P op t (.p v) b xo yo Tb KA = (binA P op t (.p v) b xo yo KA)) /\
 (∀ (gg : Nat -> AV) (r : List (Nat × AV)) (i : Nat), mkA gg r i 0 = ([])) /\
 (∀ (gg : Nat -> AV) (r : List (Nat × AV)) (i : Nat) (n : Nat), mkA gg r i (n + 1) = (look i (gg i) r :: mkA gg r (i + 1) n)) /\
 (∀ (i : Nat) (a : AV), look i a [] = (a)) /\
 (∀ (i : Nat) (a : AV) (j : Nat) (b : AV) (r : List (Nat × AV)), look i a ((j, b) :: r) = (if i = j then b else look i a r)) /\
 (∀ (n : Nat) (loc : List AV), Lc n [] loc = (loc.length = n)) /\
 (∀ (n : Nat) (i : Nat) (a : AV) (r : List (Nat × AV)) (loc : List AV), Lc n ((i, a) :: r) loc = (loc[i]? = some a /\ Lc n r loc)) /\
 (∀ (a b : AV), (some a = some b) = (a = b)) /\
 (∀ (a : AV), (a = a) = True) /\
 (∀ (t : Tbl), (t = t) = True) /\
 (∀ (e : Eff), (e = e) = True) /\
 (∀ (e : Eff), (∀ x ∈ ([] : Eff), x ∈ e) = True) /\
 (∀ (e : Eff), (∀ x ∈ e, x ∈ e) = True) /\
 (∀ (d : List AV), (d = d) = True) /\
 (∀ (α : Type) (x y : α), (if True then x else y) = x) /\
 (∀ (α : Type) (x y : α), (if False then x else y) = y) /\
 (∀ (x y : Prop), (if True then x else y) = x) /\
 (∀ (x y : Prop), (if False then x else y) = y) /\
 ((AV.p undef) = .p (.tuple #[])) /\
 (∀ (α : Type) (x : α) (K : α -> Prop), getO (some x) K = K x) /\
 (∀ (l : List Nat) (x : Nat), (x == x) = true) /\
 (∀ (α β : Type) (f : α -> β) (x : α), Option.map f (some x) = some (f x)) /\
 (∀ (α β : Type) (f : α -> β), Option.map f none = none) /\
 (∀ (n k : Nat), (n + (k + 1) == n) = false) /\
 (∀ (n k : Nat), (n == n + (k + 1)) = false) /\
 (∀ (n k j : Nat), (n + k == n + j) = (k == j)) /\
 (∀ (n k j : Nat), (n + k = n + j) = (k = j)) /\
 (∀ (n k : Nat), (n + (k + 1) = n) = False) /\
 (∀ (n k : Nat), (n = n + (k + 1)) = False) /\
 (∀ (k : Nat), ((k : Int)).toNat = k) /\
 ((Nat.cast 0 : Int) = 0) /\
 ((Nat.cast 1 : Int) = 1) /\
 (∀ (k : Nat), k * 1 = k) /\
 (∀ (k : Nat), 0 + k = k) /\
 (∀ (k : Nat), k + 0 = k) /\
 (∀ (k : Nat), 0 * k = 0) /\
 (∀ (k : Nat), k - 0 = k) /\
 (∀ (p : Prop), (True /\ p) = p) /\
 (∀ (p : Prop), (p /\ True) = p) /\
 (∀ (p : Prop), (p ∨ True) = True) /\
 (∀ (p : Prop), (True ∨ p) = True) /\
 ((true = true) = True) /\
 ((false = true) = False) /\
 (∀ (k : IntKind), (k = k) = True) /\
 (∀ (k : Nat), (k = k) = True) /\
 ((([] : List AV) = []) = True) /\
 ((([] : List (Nat × Bool)) = []) = True) /\
 ((([] : Eff) = []) = True) /\
 decide True = true /\
 decide False = false /\
 (!true) = false /\
 (!false) = true /\
 (∀ b : Bool, (true && b) = b) /\
 (∀ b : Bool, (false && b) = false) /\
 (∀ b : Bool, (b && true) = b) /\
 (∀ (a : AV) (l : List AV), (a :: l ≠ []) = True) /\
 (∀ (l : List AV), List.drop 0 l = l) := by
 refine ⟨?_, ?_, ?_, ?_, ?_, ?_, ?_, ?_, ?_, ?_, ?_, ?_, ?_, ?_, ?_, ?_, ?_, ?_, ?_, ?_, ?_, ?_, ?_, ?_, ?_, ?_, ?_, ?_, ?_, ?_, ?_, ?_, ?_, ?_, ?_, ?_, ?_, ?_, ?_, ?_, ?_, ?_, ?_, ?_, ?_, ?_, ?_, ?_, ?_, ?_, ?_, ?_, ?_, ?_, ?_, ?_, ?_, ?_, ?_, ?_, ?_, ?_, ?_, ?_, ?_, ?_, ?_, ?_, ?_, ?_, ?_, ?_, ?_, ?_, ?_, ?_, ?_, ?_, ?_, ?_, ?_, ?_, ?_, ?_, ?_, ?_, ?_, ?_, ?_, ?_, ?_, ?_, ?_, ?_, ?_, ?_, ?_, ?_, ?_, ?_, ?_, ?_, ?_, ?_, ?_, ?_, ?_, ?_, ?_, ?_, ?_, ?_, ?_, ?_, ?_, ?_, ?_, ?_, ?_, ?_, ?_, ?_, ?_, ?_, ?_, ?_, ?_, ?_, ?_, ?_, ?_, ?_, ?_, ?_, ?_, ?_, ?_, ?_, ?_, ?_, ?_, ?_, ?_, ?_, ?_, ?_, ?_, ?_, ?_, ?_, ?_, ?_, ?_, ?_, ?_, ?_, ?_, ?_, ?_, ?_, ?_, ?_, ?_, ?_, ?_, ?_, ?_, ?_, ?_, ?_, ?_, ?_, ?_, ?_, ?_, ?_, ?_, ?_, ?_, ?_, ?_, ?_, ?_, ?_, ?_, ?_, ?_, ?_, ?_, ?_, ?_, ?_, ?_, ?_, ?_, ?_, ?_, ?_, ?_, ?_, ?_, ?_, ?_, ?_, ?_, ?_, ?_, ?_, ?_, ?_, ?_, ?_, ?_, ?_, ?_, ?_, ?_, ?_, ?_, ?_, ?_, ?_, ?_, ?_, ?_, ?_, ?_, ?_, ?_, ?_, ?_, ?_, ?_, ?_, ?_, ?_, ?_, ?_, ?_, ?_, ?_, ?_, ?_, ?_, ?_, ?_, ?_, ?_, ?_, ?_, ?_, ?_, ?_, ?_, ?_, ?_, ?_, ?_, ?_, ?_, ?_, ?_, ?_, ?_, ?_, ?_, ?_, ?_, ?_, ?_, ?_, ?_, ?_, ?_, ?_, ?_, ?_, ?_, ?_, ?_, ?_, ?_, ?_, ?_, ?_, ?_, ?_, ?_, ?_, ?_, ?_, ?_, ?_, ?_, ?_, ?_, ?_, ?_, ?_, ?_, ?_, ?_, ?_, ?_, ?_, ?_, ?_, ?_, ?_, ?_, ?_, ?_, ?_, ?_, ?_, ?_, ?_, ?_, ?_, ?_, ?_, ?_, ?_, ?_, ?_, ?_, ?_, ?_, ?_, ?_⟩ <;> (intros; first | rfl | (exact propext ⟨fun h => h, fun h => h⟩) | (exact slots1 _ _) | (exact slotsT1 _ _) | (exact and_self_of rfl) | (exact if_pos rfl) | (exact get_app _ _ _) | (exact get_app0 _ _) | (exact take_app _ _ _) | (exact beq_app _ _ _) | (simp [AV.wo, AV.pub, AV.woL_eq, AV.pubL_eq, AObj.wo, AObj.pub, slots, slotsT, still, moved, keepT_get, rec1, Nat.add_assoc]; done) | (simp [AV.wo, AV.pub, AV.woL_eq, AV.pubL_eq, slots, slotsT, still, moved]; try rfl))
end Go.E
namespace Go.E
theorem u8_nat (m : Nat) : UInt8.ofInt (m : Int) = UInt8.ofNat m := by rw [<- UInt8.toNat_inj]; simp [UInt8.ofInt, Int.emod_emod_of_dvd]; omega
theorem u8_self (x : UInt8) : UInt8.ofInt (x.toNat : Int) = x := by rw [u8_nat, UInt8.ofNat_toNat]
theorem u8_toNat (z : Int) : ((UInt8.ofInt z).toNat : Int) = z % 2 ^ 8 := by
 have h0 : 0 <= z % 2 ^ 8 := Int.emod_nonneg _ (by decide)
 have h1 : z % 2 ^ 8 < 2 ^ 8 := Int.emod_lt_of_pos _ (by decide)
 simp only [UInt8.ofInt]
 rw [UInt8.toNat_ofNat']
 omega
theorem u8_wrap (z : Int) : IntKind.u8.wrap z = ((UInt8.ofInt z).toNat : Int) := by rw [u8_toNat]; simp [IntKind.wrap, IntKind.bits, IntKind.signed]
theorem u8_sub (x y : Int) : UInt8.ofInt (x - y) = UInt8.ofInt x - UInt8.ofInt y := by
 have := UInt8.ofInt_add (x - y) y
 rw [Int.sub_add_cancel] at this
 rw [this, UInt8.add_sub_cancel]
theorem u8_bv (z : Int) : BitVec.ofInt IntKind.u8.bits z = (UInt8.ofInt z).toBitVec := by
 apply BitVec.eq_of_toInt_eq
 have h := u8_toNat z
 apply congrArg
 apply BitVec.eq_of_toNat_eq
 show (BitVec.ofInt 8 z).toNat = (UInt8.ofInt z).toNat
 rw [BitVec.toNat_ofInt, show ((2 ^ 8 : Nat) : Int) = 2 ^ 8 from rfl]
 omega
theorem u8_and (x y : Int) : UInt8.ofInt (((BitVec.ofInt IntKind.u8.bits x &&& BitVec.ofInt IntKind.u8.bits y).toNat : Nat) : Int) = UInt8.ofInt x &&& UInt8.ofInt y := by rw [u8_bv, u8_bv]; exact u8_self (UInt8.ofInt x &&& UInt8.ofInt y)
theorem u8_or (x y : Int) : UInt8.ofInt (((BitVec.ofInt IntKind.u8.bits x ||| BitVec.ofInt IntKind.u8.bits y).toNat : Nat) : Int) = UInt8.ofInt x ||| UInt8.ofInt y := by rw [u8_bv, u8_bv]; exact u8_self (UInt8.ofInt x ||| UInt8.ofInt y)
theorem u8_xor (x y : Int) : UInt8.ofInt (((BitVec.ofInt IntKind.u8.bits x ^^^ BitVec.ofInt IntKind.u8.bits y).toNat : Nat) : Int) = UInt8.ofInt x ^^^ UInt8.ofInt y := by rw [u8_bv, u8_bv]; exact u8_self (UInt8.ofInt x ^^^ UInt8.ofInt y)
theorem u8_andNot (x y : Int) : UInt8.ofInt (((BitVec.ofInt IntKind.u8.bits x &&& ~~~ BitVec.ofInt IntKind.u8.bits y).toNat : Nat) : Int) = UInt8.ofInt x &&& ~~~ UInt8.ofInt y := by rw [u8_bv, u8_bv]; exact u8_self (UInt8.ofInt x &&& ~~~ UInt8.ofInt y)
def u8_shl (x : UInt8) (k : Nat) : UInt8 := if k < 8 then x <<< (UInt8.ofNat k) else 0
def u8_shr (x : UInt8) (k : Nat) : UInt8 := if k < 8 then x >>> (UInt8.ofNat k) else 0
theorem u8_shl_eq (x : UInt8) (k : Nat) : x * UInt8.ofInt (2 ^ (min k IntKind.u8.bits)) = u8_shl x k := by
 unfold u8_shl
 rw [<- UInt8.toNat_inj]
 have e : UInt8.ofInt (2 ^ (min k IntKind.u8.bits)) = UInt8.ofNat (2 ^ (min k 8)) := by
  rw [<- u8_nat]; simp [IntKind.bits]
 rw [e, UInt8.toNat_mul, UInt8.toNat_ofNat']
 split
 . rename_i h
   rw [Nat.min_eq_left (by omega), UInt8.toNat_shiftLeft, UInt8.toNat_ofNat', Nat.mod_eq_of_lt (show k < 2 ^ 8 from Nat.lt_trans h (by decide)), Nat.mod_eq_of_lt h, Nat.shiftLeft_eq, Nat.mul_mod, Nat.mod_mod, <- Nat.mul_mod]
 . rename_i h
   rw [Nat.min_eq_right (by omega)]
   simp
theorem u8_shr_eq (x : UInt8) (k : Nat) : ((x.toNat : Int)).fdiv (2 ^ (min k IntKind.u8.bits)) = ((u8_shr x k).toNat : Int) := by
 unfold u8_shr
 have e : ((x.toNat : Int)).fdiv (2 ^ (min k IntKind.u8.bits)) = ((x.toNat / 2 ^ (min k 8) : Nat) : Int) := by
  rw [Int.fdiv_eq_ediv_of_nonneg _ (Int.le_of_lt (Int.pow_pos (by decide)))]
  simp [IntKind.bits]
 rw [e]
 congr 1
 split
 . rename_i h
   rw [Nat.min_eq_left (by omega), UInt8.toNat_shiftRight, UInt8.toNat_ofNat', Nat.mod_eq_of_lt (show k < 2 ^ 8 from Nat.lt_trans h (by decide)), Nat.mod_eq_of_lt h, Nat.shiftRight_eq_div_pow]
 . rename_i h
   rw [Nat.min_eq_right (by omega)]
   have := x.toNat_lt
   simp
   omega
theorem u8_nonneg (x : UInt8) : (0 <= (x.toNat : Int)) = True := by simp
theorem u8_eq (x y : UInt8) : ((x.toNat : Int) = (y.toNat : Int)) = (x = y) := by simp [<- UInt8.toNat_inj]; omega
theorem u8_toInt (x : UInt8) : ((x.toNat : Int)).toNat = x.toNat := by simp
theorem u16_nat (m : Nat) : UInt16.ofInt (m : Int) = UInt16.ofNat m := by rw [<- UInt16.toNat_inj]; simp [UInt16.ofInt, Int.emod_emod_of_dvd]; omega
theorem u16_self (x : UInt16) : UInt16.ofInt (x.toNat : Int) = x := by rw [u16_nat, UInt16.ofNat_toNat]
theorem u16_toNat (z : Int) : ((UInt16.ofInt z).toNat : Int) = z % 2 ^ 16 := by
 have h0 : 0 <= z % 2 ^ 16 := Int.emod_nonneg _ (by decide)
 have h1 : z % 2 ^ 16 < 2 ^ 16 := Int.emod_lt_of_pos _ (by decide)
 simp only [UInt16.ofInt]
 rw [UInt16.toNat_ofNat']
 omega
theorem u16_wrap (z : Int) : IntKind.u16.wrap z = ((UInt16.ofInt z).toNat : Int) := by rw [u16_toNat]; simp [IntKind.wrap, IntKind.bits, IntKind.signed]
theorem u16_sub (x y : Int) : UInt16.ofInt (x - y) = UInt16.ofInt x - UInt16.ofInt y := by
 have := UInt16.ofInt_add (x - y) y
 rw [Int.sub_add_cancel] at this
 rw [this, UInt16.add_sub_cancel]
theorem u16_bv (z : Int) : BitVec.ofInt IntKind.u16.bits z = (UInt16.ofInt z).toBitVec := by
 apply BitVec.eq_of_toInt_eq
 have h := u16_toNat z
 apply congrArg
 apply BitVec.eq_of_toNat_eq
 show (BitVec.ofInt 16 z).toNat = (UInt16.ofInt z).toNat
 rw [BitVec.toNat_ofInt, show ((2 ^ 16 : Nat) : Int) = 2 ^ 16 from rfl]
 omega
theorem u16_and (x y : Int) : UInt16.ofInt (((BitVec.ofInt IntKind.u16.bits x &&& BitVec.ofInt IntKind.u16.bits y).toNat : Nat) : Int) = UInt16.ofInt x &&& UInt16.ofInt y := by rw [u16_bv, u16_bv]; exact u16_self (UInt16.ofInt x &&& UInt16.ofInt y)
theorem u16_or (x y : Int) : UInt16.ofInt (((BitVec.ofInt IntKind.u16.bits x ||| BitVec.ofInt IntKind.u16.bits y).toNat : Nat) : Int) = UInt16.ofInt x ||| UInt16.ofInt y := by rw [u16_bv, u16_bv]; exact u16_self (UInt16.ofInt x ||| UInt16.ofInt y)
theorem u16_xor (x y : Int) : UInt16.ofInt (((BitVec.ofInt IntKind.u16.bits x ^^^ BitVec.ofInt IntKind.u16.bits y).toNat : Nat) : Int) = UInt16.ofInt x ^^^ UInt16.ofInt y := by rw [u16_bv, u16_bv]; exact u16_self (UInt16.ofInt x ^^^ UInt16.ofInt y)
theorem u16_andNot (x y : Int) : UInt16.ofInt (((BitVec.ofInt IntKind.u16.bits x &&& ~~~ BitVec.ofInt IntKind.u16.bits y).toNat : Nat) : Int) = UInt16.ofInt x &&& ~~~ UInt16.ofInt y := by rw [u16_bv, u16_bv]; exact u16_self (UInt16.ofInt x &&& ~~~ UInt16.ofInt y)
def u16_shl (x : UInt16) (k : Nat) : UInt16 := if k < 16 then x <<< (UInt16.ofNat k) else 0
def u16_shr (x : UInt16) (k : Nat) : UInt16 := if k < 16 then x >>> (UInt16.ofNat k) else 0
theorem u16_shl_eq (x : UInt16) (k : Nat) : x * UInt16.ofInt (2 ^ (min k IntKind.u16.bits)) = u16_shl x k := by
 unfold u16_shl
 rw [<- UInt16.toNat_inj]
 have e : UInt16.ofInt (2 ^ (min k IntKind.u16.bits)) = UInt16.ofNat (2 ^ (min k 16)) := by
  rw [<- u16_nat]; simp [IntKind.bits]
 rw [e, UInt16.toNat_mul, UInt16.toNat_ofNat']
 split
 . rename_i h
   rw [Nat.min_eq_left (by omega), UInt16.toNat_shiftLeft, UInt16.toNat_ofNat', Nat.mod_eq_of_lt (show k < 2 ^ 16 from Nat.lt_trans h (by decide)), Nat.mod_eq_of_lt h, Nat.shiftLeft_eq, Nat.mul_mod, Nat.mod_mod, <- Nat.mul_mod]
 . rename_i h
   rw [Nat.min_eq_right (by omega)]
   simp
theorem u16_shr_eq (x : UInt16) (k : Nat) : ((x.toNat : Int)).fdiv (2 ^ (min k IntKind.u16.bits)) = ((u16_shr x k).toNat : Int) := by
 unfold u16_shr
 have e : ((x.toNat : Int)).fdiv (2 ^ (min k IntKind.u16.bits)) = ((x.toNat / 2 ^ (min k 16) : Nat) : Int) := by
  rw [Int.fdiv_eq_ediv_of_nonneg _ (Int.le_of_lt (Int.pow_pos (by decide)))]
  simp [IntKind.bits]
 rw [e]
 congr 1
 split
 . rename_i h
   rw [Nat.min_eq_left (by omega), UInt16.toNat_shiftRight, UInt16.toNat_ofNat', Nat.mod_eq_of_lt (show k < 2 ^ 16 from Nat.lt_trans h (by decide)), Nat.mod_eq_of_lt h, Nat.shiftRight_eq_div_pow]
 . rename_i h
   rw [Nat.min_eq_right (by omega)]
   have := x.toNat_lt
   simp
   omega
theorem u16_nonneg (x : UInt16) : (0 <= (x.toNat : Int)) = True := by simp
theorem u16_toInt (x : UInt16) : ((x.toNat : Int)).toNat = x.toNat := by simp
theorem u32_nat (m : Nat) : UInt32.ofInt (m : Int) = UInt32.ofNat m := by rw [<- UInt32.toNat_inj]; simp [UInt32.ofInt, Int.emod_emod_of_dvd]; omega
theorem u32_self (x : UInt32) : UInt32.ofInt (x.toNat : Int) = x := by rw [u32_nat, UInt32.ofNat_toNat]
theorem u32_toNat (z : Int) : ((UInt32.ofInt z).toNat : Int) = z % 2 ^ 32 := by
 have h0 : 0 <= z % 2 ^ 32 := Int.emod_nonneg _ (by decide)
 have h1 : z % 2 ^ 32 < 2 ^ 32 := Int.emod_lt_of_pos _ (by decide)
 simp only [UInt32.ofInt]
 rw [UInt32.toNat_ofNat']
 omega
theorem u32_wrap (z : Int) : IntKind.u32.wrap z = ((UInt32.ofInt z).toNat : Int) := by rw [u32_toNat]; simp [IntKind.wrap, IntKind.bits, IntKind.signed]
theorem u32_sub (x y : Int) : UInt32.ofInt (x - y) = UInt32.ofInt x - UInt32.ofInt y := by
 have := UInt32.ofInt_add (x - y) y
 rw [Int.sub_add_cancel] at this
 rw [this, UInt32.add_sub_cancel]
theorem u32_bv (z : Int) : BitVec.ofInt IntKind.u32.bits z = (UInt32.ofInt z).toBitVec := by
 apply BitVec.eq_of_toInt_eq
 have h := u32_toNat z
 apply congrArg
 apply BitVec.eq_of_toNat_eq
 show (BitVec.ofInt 32 z).toNat = (UInt32.ofInt z).toNat
 rw [BitVec.toNat_ofInt, show ((2 ^ 32 : Nat) : Int) = 2 ^ 32 from rfl]
 omega
theorem u32_and (x y : Int) : UInt32.ofInt (((BitVec.ofInt IntKind.u32.bits x &&& BitVec.ofInt IntKind.u32.bits y).toNat : Nat) : Int) = UInt32.ofInt x &&& UInt32.ofInt y := by rw [u32_bv, u32_bv]; exact u32_self (UInt32.ofInt x &&& UInt32.ofInt y)
theorem u32_or (x y : Int) : UInt32.ofInt (((BitVec.ofInt IntKind.u32.bits x ||| BitVec.ofInt IntKind.u32.bits y).toNat : Nat) : Int) = UInt32.ofInt x ||| UInt32.ofInt y := by rw [u32_bv, u32_bv]; exact u32_self (UInt32.ofInt x ||| UInt32.ofInt y)
theorem u32_xor (x y : Int) : UInt32.ofInt (((BitVec.ofInt IntKind.u32.bits x ^^^ BitVec.ofInt IntKind.u32.bits y).toNat : Nat) : Int) = UInt32.ofInt x ^^^ UInt32.ofInt y := by rw [u32_bv, u32_bv]; exact u32_self (UInt32.ofInt x ^^^ UInt32.ofInt y)
theorem u32_andNot (x y : Int) : UInt32.ofInt (((BitVec.ofInt IntKind.u32.bits x &&& ~~~ BitVec.ofInt IntKind.u32.bits y).toNat : Nat) : Int) = UInt32.ofInt x &&& ~~~ UInt32.ofInt y := by rw [u32_bv, u32_bv]; exact u32_self (UInt32.ofInt x &&& ~~~ UInt32.ofInt y)
def u32_shl (x : UInt32) (k : Nat) : UInt32 := if k < 32 then x <<< (UInt32.ofNat k) else 0
def u32_shr (x : UInt32) (k : Nat) : UInt32 := if k < 32 then x >>> (UInt32.ofNat k) else 0
theorem u32_shl_eq (x : UInt32) (k : Nat) : x * UInt32.ofInt (2 ^ (min k IntKind.u32.bits)) = u32_shl x k := by
 unfold u32_shl
 rw [<- UInt32.toNat_inj]
 have e : UInt32.ofInt (2 ^ (min k IntKind.u32.bits)) = UInt32.ofNat (2 ^ (min k 32)) := by
  rw [<- u32_nat]; simp [IntKind.bits]
 rw [e, UInt32.toNat_mul, UInt32.toNat_ofNat']
 split
 . rename_i h
   rw [Nat.min_eq_left (by omega), UInt32.toNat_shiftLeft, UInt32.toNat_ofNat', Nat.mod_eq_of_lt (show k < 2 ^ 32 from Nat.lt_trans h (by decide)), Nat.mod_eq_of_lt h, Nat.shiftLeft_eq, Nat.mul_mod, Nat.mod_mod, <- Nat.mul_mod]
 . rename_i h
   rw [Nat.min_eq_right (by omega)]
   simp
theorem u32_shr_eq (x : UInt32) (k : Nat) : ((x.toNat : Int)).fdiv (2 ^ (min k IntKind.u32.bits)) = ((u32_shr x k).toNat : Int) := by
 unfold u32_shr
 have e : ((x.toNat : Int)).fdiv (2 ^ (min k IntKind.u32.bits)) = ((x.toNat / 2 ^ (min k 32) : Nat) : Int) := by
  rw [Int.fdiv_eq_ediv_of_nonneg _ (Int.le_of_lt (Int.pow_pos (by decide)))]
  simp [IntKind.bits]
 rw [e]
 congr 1
 split
 . rename_i h
   rw [Nat.min_eq_left (by omega), UInt32.toNat_shiftRight, UInt32.toNat_ofNat', Nat.mod_eq_of_lt (show k < 2 ^ 32 from Nat.lt_trans h (by decide)), Nat.mod_eq_of_lt h, Nat.shiftRight_eq_div_pow]
 . rename_i h
   rw [Nat.min_eq_right (by omega)]
   have := x.toNat_lt
   simp
   omega
theorem u32_nonneg (x : UInt32) : (0 <= (x.toNat : Int)) = True := by simp
theorem u32_toInt (x : UInt32) : ((x.toNat : Int)).toNat = x.toNat := by simp
theorem u64_nat (m : Nat) : UInt64.ofInt (m : Int) = UInt64.ofNat m := by rw [<- UInt64.toNat_inj]; simp [UInt64.ofInt, Int.emod_emod_of_dvd]; omega
theorem u64_self (x : UInt64) : UInt64.ofInt (x.toNat : Int) = x := by rw [u64_nat, UInt64.ofNat_toNat]
theorem u64_toNat (z : Int) : ((UInt64.ofInt z).toNat : Int) = z % 2 ^ 64 := by
 have h0 : 0 <= z % 2 ^ 64 := Int.emod_nonneg _ (by decide)
 have h1 : z % 2 ^ 64 < 2 ^ 64 := Int.emod_lt_of_pos _ (by decide)
 simp only [UInt64.ofInt]
 rw [UInt64.toNat_ofNat']
 omega
theorem u64_wrap (z : Int) : IntKind.u64.wrap z = ((UInt64.ofInt z).toNat : Int) := by rw [u64_toNat]; simp [IntKind.wrap, IntKind.bits, IntKind.signed]
theorem u64_sub (x y : Int) : UInt64.ofInt (x - y) = UInt64.ofInt x - UInt64.ofInt y := by
 have := UInt64.ofInt_add (x - y) y
 rw [Int.sub_add_cancel] at this
 rw [this, UInt64.add_sub_cancel]
theorem u64_bv (z : Int) : BitVec.ofInt IntKind.u64.bits z = (UInt64.ofInt z).toBitVec := by
 apply BitVec.eq_of_toInt_eq
 have h := u64_toNat z
 apply congrArg
 apply BitVec.eq_of_toNat_eq
 show (BitVec.ofInt 64 z).toNat = (UInt64.ofInt z).toNat
 rw [BitVec.toNat_ofInt, show ((2 ^ 64 : Nat) : Int) = 2 ^ 64 from rfl]
 omega
theorem u64_and (x y : Int) : UInt64.ofInt (((BitVec.ofInt IntKind.u64.bits x &&& BitVec.ofInt IntKind.u64.bits y).toNat : Nat) : Int) = UInt64.ofInt x &&& UInt64.ofInt y := by rw [u64_bv, u64_bv]; exact u64_self (UInt64.ofInt x &&& UInt64.ofInt y)
theorem u64_or (x y : Int) : UInt64.ofInt (((BitVec.ofInt IntKind.u64.bits x ||| BitVec.ofInt IntKind.u64.bits y).toNat : Nat) : Int) = UInt64.ofInt x ||| UInt64.ofInt y := by rw [u64_bv, u64_bv]; exact u64_self (UInt64.ofInt x ||| UInt64.ofInt y)
theorem u64_xor (x y : Int) : UInt64.ofInt (((BitVec.ofInt IntKind.u64.bits x ^^^ BitVec.ofInt IntKind.u64.bits y).toNat : Nat) : Int) = UInt64.ofInt x ^^^ UInt64.ofInt y := by rw [u64_bv, u64_bv]; exact u64_self (UInt64.ofInt x ^^^ UInt64.ofInt y)
theorem u64_andNot (x y : Int) : UInt64.ofInt (((BitVec.ofInt IntKind.u64.bits x &&& ~~~ BitVec.ofInt IntKind.u64.bits y).toNat : Nat) : Int) = UInt64.ofInt x &&& ~~~ UInt64.ofInt y := by rw [u64_bv, u64_bv]; exact u64_self (UInt64.ofInt x &&& ~~~ UInt64.ofInt y)
def u64_shl (x : UInt64) (k : Nat) : UInt64 := if k < 64 then x <<< (UInt64.ofNat k) else 0
def u64_shr (x : UInt64) (k : Nat) : UInt64 := if k < 64 then x >>> (UInt64.ofNat k) else 0
theorem u64_shl_eq (x : UInt64) (k : Nat) : x * UInt64.ofInt (2 ^ (min k IntKind.u64.bits)) = u64_shl x k := by
 unfold u64_shl
 rw [<- UInt64.toNat_inj]
 have e : UInt64.ofInt (2 ^ (min k IntKind.u64.bits)) = UInt64.ofNat (2 ^ (min k 64)) := by
  rw [<- u64_nat]; simp [IntKind.bits]
 rw [e, UInt64.toNat_mul, UInt64.toNat_ofNat']
 split
 . rename_i h
   rw [Nat.min_eq_left (by omega), UInt64.toNat_shiftLeft, UInt64.toNat_ofNat', Nat.mod_eq_of_lt (show k < 2 ^ 64 from Nat.lt_trans h (by decide)), Nat.mod_eq_of_lt h, Nat.shiftLeft_eq, Nat.mul_mod, Nat.mod_mod, <- Nat.mul_mod]
 . rename_i h
   rw [Nat.min_eq_right (by omega)]
   simp
theorem u64_shr_eq (x : UInt64) (k : Nat) : ((x.toNat : Int)).fdiv (2 ^ (min k IntKind.u64.bits)) = ((u64_shr x k).toNat : Int) := by
 unfold u64_shr
 have e : ((x.toNat : Int)).fdiv (2 ^ (min k IntKind.u64.bits)) = ((x.toNat / 2 ^ (min k 64) : Nat) : Int) := by
  rw [Int.fdiv_eq_ediv_of_nonneg _ (Int.le_of_lt (Int.pow_pos (by decide)))]
  simp [IntKind.bits]
 rw [e]
 congr 1
 split
 . rename_i h
   rw [Nat.min_eq_left (by omega), UInt64.toNat_shiftRight, UInt64.toNat_ofNat', Nat.mod_eq_of_lt (show k < 2 ^ 64 from Nat.lt_trans h (by decide)), Nat.mod_eq_of_lt h, Nat.shiftRight_eq_div_pow]
 . rename_i h
   rw [Nat.min_eq_right (by omega)]
   have := x.toNat_lt
   simp
   omega
theorem u64_nonneg (x : UInt64) : (0 <= (x.toNat : Int)) = True := by simp
theorem u64_toInt (x : UInt64) : ((x.toNat : Int)).toNat = x.toNat := by simp
theorem u8_of_u16 (y : UInt16) : UInt8.ofInt (y.toNat : Int) = y.toUInt8 := by rw [u8_nat, <- UInt8.toNat_inj]; simp
theorem u8_of_u32 (y : UInt32) : UInt8.ofInt (y.toNat : Int) = y.toUInt8 := by rw [u8_nat, <- UInt8.toNat_inj]; simp
theorem u8_of_u64 (y : UInt64) : UInt8.ofInt (y.toNat : Int) = y.toUInt8 := by rw [u8_nat, <- UInt8.toNat_inj]; simp
theorem u16_of_u8 (y : UInt8) : UInt16.ofInt (y.toNat : Int) = y.toUInt16 := by rw [u16_nat, <- UInt16.toNat_inj]; simp
theorem u16_of_u32 (y : UInt32) : UInt16.ofInt (y.toNat : Int) = y.toUInt16 := by rw [u16_nat, <- UInt16.toNat_inj]; simp
theorem u16_of_u64 (y : UInt64) : UInt16.ofInt (y.toNat : Int) = y.toUInt16 := by rw [u16_nat, <- UInt16.toNat_inj]; simp
theorem u32_of_u8 (y : UInt8) : UInt32.ofInt (y.toNat : Int) = y.toUInt32 := by rw [u32_nat, <- UInt32.toNat_inj]; simp
theorem u32_of_u16 (y : UInt16) : UInt32.ofInt (y.toNat : Int) = y.toUInt32 := by rw [u32_nat, <- UInt32.toNat_inj]; simp
theorem u32_of_u64 (y : UInt64) : UInt32.ofInt (y.toNat : Int) = y.toUInt32 := by rw [u32_nat, <- UInt32.toNat_inj]; simp
theorem u64_of_u8 (y : UInt8) : UInt64.ofInt (y.toNat : Int) = y.toUInt64 := by rw [u64_nat, <- UInt64.toNat_inj]; simp
theorem u64_of_u16 (y : UInt16) : UInt64.ofInt (y.toNat : Int) = y.toUInt64 := by rw [u64_nat, <- UInt64.toNat_inj]; simp
theorem u64_of_u32 (y : UInt32) : UInt64.ofInt (y.toNat : Int) = y.toUInt64 := by rw [u64_nat, <- UInt64.toNat_inj]; simp
def by8 (x : UInt8) : AV := .p (.int .u8 (x.toNat : Int))
def w16 (x : UInt16) : AV := .p (.int .u16 (x.toNat : Int))
def w32 (x : UInt32) : AV := .p (.int .u32 (x.toNat : Int))
def w64 (x : UInt64) : AV := .p (.int .u64 (x.toNat : Int))
def wint (x : Int) : AV := .p (.int .i64 x)
theorem getO_mapf {α β : Type} (f : α -> β) (o : Option α) (K : β -> Prop) : getO (Option.map f o) K = getO o fun x => K (f x) := by cases o <;> rfl
theorem getO_lt {α : Type} [Inhabited α] (l : List α) (k : Nat) (K : α -> Prop) (h : k < l.length) : getO l[k]? K = K l[k]! := by
 rw [List.getElem?_eq_getElem h, getElem!_pos l k h]; rfl
theorem ones_map {α : Type} (f : α -> AV) (hf : ∀ x, (f x).one = true) (l : List α) : ones (l.map f) = true := by simp [ones, hf]
theorem plains_mapv {α : Type} (f : α -> AV) (g : α -> Value) (hf : ∀ x, f x = .p (g x)) (l : List α) : plains (l.map f) = some (l.map g) := by rw [show f = fun x => .p (g x) from funext hf]; exact plains_map' g l
theorem wo_map {α : Type} (f : α -> AV) (q : Nat -> Bool) (hf : ∀ x, (f x).wo q = f x) (l : List α) : List.map (AV.wo q) (List.map f l) = List.map f l := by simp [List.map_map, Function.comp_def, hf]
theorem pub_map {α : Type} (f : α -> AV) (i : Nat) (cs : List AV) (hf : ∀ x, (f x).pub i cs = f x) (l : List α) : List.map (AV.pub i cs) (List.map f l) = List.map f l := by simp [List.map_map, Function.comp_def, hf]
theorem vl :
 (∀ x : UInt8, by8 x = AV.p (.int .u8 (x.toNat : Int))) /\
 (∀ l : List UInt8, ones (l.map by8) = true) /\
 (∀ (q : Nat -> Bool) (l : List UInt8), List.map (AV.wo q) (List.map by8 l) = List.map by8 l) /\
 (∀ (i : Nat) (cs : List AV) (l : List UInt8), List.map (AV.pub i cs) (List.map by8 l) = List.map by8 l) /\
 (∀ (l : List UInt8), (List.map by8 l).length = l.length) /\
 (∀ (l : List UInt8) (k : Nat) (x : UInt8), List.set (List.map by8 l) k (AV.p (.int .u8 (x.toNat : Int))) = List.map by8 (l.set k x)) /\
 (∀ (l : List UInt8) (x : UInt8), List.map by8 l ++ [AV.p (.int .u8 (x.toNat : Int))] = List.map by8 (l ++ [x])) /\
 (∀ (l m : List UInt8), List.map by8 l ++ List.map by8 m = List.map by8 (l ++ m)) /\
 (∀ (l : List UInt8) (k : Nat), List.drop k (List.map by8 l) = List.map by8 (l.drop k)) /\
 (∀ (l : List UInt8) (k : Nat), List.take k (List.map by8 l) = List.map by8 (l.take k)) /\
 (∀ (l : List UInt8) (k : Nat), (List.map by8 l)[k]? = Option.map by8 l[k]?) /\
 (∀ (l : List UInt8), (List.map by8 l = []) = (l = [])) /\
 (List.map by8 [] = []) /\
 (∀ x : UInt16, w16 x = AV.p (.int .u16 (x.toNat : Int))) /\
 (∀ l : List UInt16, ones (l.map w16) = true) /\
 (∀ (l : List UInt16), (List.map w16 l).length = l.length) /\
 (∀ (l : List UInt16), (List.map w16 l = []) = (l = [])) /\
 (List.map w16 [] = []) /\
 (∀ x : UInt32, w32 x = AV.p (.int .u32 (x.toNat : Int))) /\
 (∀ l : List UInt32, ones (l.map w32) = true) /\
 (∀ (l : List UInt32), (List.map w32 l).length = l.length) /\
 (∀ (l : List UInt32), (List.map w32 l = []) = (l = [])) /\
 (List.map w32 [] = []) /\
 (∀ x : UInt64, w64 x = AV.p (.int .u64 (x.toNat : Int))) /\
 (∀ l : List UInt64, ones (l.map w64) = true) /\
 (∀ (l : List UInt64), (List.map w64 l).length = l.length) /\
 (∀ (l : List UInt64), (List.map w64 l = []) = (l = [])) /\
 (List.map w64 [] = []) /\
 (∀ x : Int, wint x = AV.p (.int .i64 x)) /\
 (∀ l : List Int, ones (l.map wint) = true) /\
 (∀ (l : List Int), (List.map wint l).length = l.length) /\
 (∀ (l : List Int), (List.map wint l = []) = (l = [])) /\
 (List.map wint [] = []) := by
 refine ⟨?_, ?_, ?_, ?_, ?_, ?_, ?_, ?_, ?_, ?_, ?_, ?_, ?_, ?_, ?_, ?_, ?_, ?_, ?_, ?_, ?_, ?_, ?_, ?_, ?_, ?_, ?_, ?_, ?_, ?_, ?_, ?_, ?_⟩ <;> intros
 . exact rfl
 . exact ones_map _ (fun _ => rfl) _
 . exact wo_map _ _ (fun _ => by rw [by8, AV.wo]) _
 . exact pub_map _ _ _ (fun _ => by rw [by8, AV.pub]) _
 . simp
 . simp [List.map_set, by8]
 . simp [by8]
 . simp
 . simp [List.map_drop]
 . simp [List.map_take]
 . simp
 . simp
 . exact rfl
 . exact rfl
 . exact ones_map _ (fun _ => rfl) _
 . simp
 . simp
 . exact rfl
 . exact rfl
 . exact ones_map _ (fun _ => rfl) _
 . simp
 . simp
 . exact rfl
 . exact rfl
 . exact ones_map _ (fun _ => rfl) _
 . simp
 . simp
 . exact rfl
 . exact rfl
 . exact ones_map _ (fun _ => rfl) _
 . simp
 . simp
 . exact rfl
theorem vi :
 (∀ z : Int, -9223372036854775808 <= z /\ z <= 9223372036854775807 -> IntKind.i64.wrap z = z) /\
 (∀ x y : Int, 0 <= x /\ 0 <= y -> (x + y).toNat = x.toNat + y.toNat) /\
 (∀ x y : Int, 0 <= y /\ 0 <= x -> (x - y).toNat = x.toNat - y.toNat) /\
 (∀ x y : Int, 0 <= x /\ 0 <= y -> (x * y).toNat = x.toNat * y.toNat) := by
 refine ⟨fun z h => IntWalk.i64_in z h, fun x y h => by omega, fun x y h => by omega, fun x y ⟨h1, h2⟩ => ?_⟩
 obtain ⟨a, rfl⟩ := Int.eq_ofNat_of_zero_le h1
 obtain ⟨b, rfl⟩ := Int.eq_ofNat_of_zero_le h2
 simp [<- Int.natCast_mul]
theorem CondP.dec {p : Prop} [Decidable p] {A B : Prop} (h1 : p -> A) (h2 : ¬ p -> B) : CondP (.bool (decide p)) A B := CondP.split (fun h => h1 (of_decide_eq_true h)) (fun h => h2 (of_decide_eq_false h))
theorem CondP.ndec {p : Prop} [Decidable p] {A B : Prop} (h1 : ¬ p -> A) (h2 : p -> B) : CondP (.bool (!decide p)) A B := CondP.split (fun h => h1 (by simpa using h)) (fun h => h2 (by simpa using h))
theorem getO_i {α : Type} [Inhabited α] : ∀ (l : List α) (k : Nat) (K : α -> Prop), k < l.length -> getO l[k]? K = K l[k]! := getO_lt
theorem vu :
 (∀ z : Int, IntKind.u8.wrap z = ((UInt8.ofInt z).toNat : Int)) /\
 (∀ x : UInt8, UInt8.ofInt (x.toNat : Int) = x) /\
 (∀ x y : Int, UInt8.ofInt (x - y) = UInt8.ofInt x - UInt8.ofInt y) /\
 (∀ x y : Int, UInt8.ofInt (x + y) = UInt8.ofInt x + UInt8.ofInt y) /\
 (∀ x y : Int, UInt8.ofInt (((BitVec.ofInt IntKind.u8.bits x &&& BitVec.ofInt IntKind.u8.bits y).toNat : Nat) : Int) = UInt8.ofInt x &&& UInt8.ofInt y) /\
 (∀ x y : Int, UInt8.ofInt (((BitVec.ofInt IntKind.u8.bits x ||| BitVec.ofInt IntKind.u8.bits y).toNat : Nat) : Int) = UInt8.ofInt x ||| UInt8.ofInt y) /\
 (∀ x y : Int, UInt8.ofInt (((BitVec.ofInt IntKind.u8.bits x ^^^ BitVec.ofInt IntKind.u8.bits y).toNat : Nat) : Int) = UInt8.ofInt x ^^^ UInt8.ofInt y) /\
 (∀ (x : UInt8) (k : Nat), ((x.toNat : Int)).fdiv (2 ^ (min k IntKind.u8.bits)) = ((u8_shr x k).toNat : Int)) /\
 (∀ x : UInt8, (0 <= (x.toNat : Int)) = True) /\
 (∀ x : UInt8, ((x.toNat : Int)).toNat = x.toNat) /\
 (∀ y : UInt16, UInt8.ofInt (y.toNat : Int) = y.toUInt8) /\
 (∀ y : UInt32, UInt8.ofInt (y.toNat : Int) = y.toUInt8) /\
 (∀ y : UInt64, UInt8.ofInt (y.toNat : Int) = y.toUInt8) /\
 (∀ x : UInt16, UInt16.ofInt (x.toNat : Int) = x) /\
 (∀ x : UInt16, (0 <= (x.toNat : Int)) = True) /\
 (∀ x : UInt16, ((x.toNat : Int)).toNat = x.toNat) /\
 (∀ y : UInt8, UInt16.ofInt (y.toNat : Int) = y.toUInt16) /\
 (∀ y : UInt32, UInt16.ofInt (y.toNat : Int) = y.toUInt16) /\
 (∀ y : UInt64, UInt16.ofInt (y.toNat : Int) = y.toUInt16) /\
 (∀ z : Int, IntKind.u32.wrap z = ((UInt32.ofInt z).toNat : Int)) /\
 (∀ x : UInt32, UInt32.ofInt (x.toNat : Int) = x) /\
 (∀ x : UInt32, (0 <= (x.toNat : Int)) = True) /\
 (∀ x : UInt32, ((x.toNat : Int)).toNat = x.toNat) /\
 (∀ y : UInt8, UInt32.ofInt (y.toNat : Int) = y.toUInt32) /\
 (∀ y : UInt16, UInt32.ofInt (y.toNat : Int) = y.toUInt32) /\
 (∀ y : UInt64, UInt32.ofInt (y.toNat : Int) = y.toUInt32) /\
 (∀ z : Int, IntKind.u64.wrap z = ((UInt64.ofInt z).toNat : Int)) /\
 (∀ x : UInt64, UInt64.ofInt (x.toNat : Int) = x) /\
 (∀ x y : Int, UInt64.ofInt (x - y) = UInt64.ofInt x - UInt64.ofInt y) /\
 (∀ x y : Int, UInt64.ofInt (x * y) = UInt64.ofInt x * UInt64.ofInt y) /\
 (∀ x y : Int, UInt64.ofInt (((BitVec.ofInt IntKind.u64.bits x &&& BitVec.ofInt IntKind.u64.bits y).toNat : Nat) : Int) = UInt64.ofInt x &&& UInt64.ofInt y) /\
 (∀ (x : UInt64) (k : Nat), ((x.toNat : Int)).fdiv (2 ^ (min k IntKind.u64.bits)) = ((u64_shr x k).toNat : Int)) /\
 (∀ x : UInt64, (0 <= (x.toNat : Int)) = True) /\
 (∀ x : UInt64, ((x.toNat : Int)).toNat = x.toNat) /\
 (∀ y : UInt8, UInt64.ofInt (y.toNat : Int) = y.toUInt64) /\
 (∀ y : UInt16, UInt64.ofInt (y.toNat : Int) = y.toUInt64) /\
 (∀ y : UInt32, UInt64.ofInt (y.toNat : Int) = y.toUInt64) :=
 ⟨@u8_wrap, @u8_self, @u8_sub, @UInt8.ofInt_add, @u8_and, @u8_or, @u8_xor, @u8_shr_eq, @u8_nonneg, @u8_toInt, @u8_of_u16, @u8_of_u32, @u8_of_u64, @u16_self, @u16_nonneg, @u16_toInt, @u16_of_u8, @u16_of_u32, @u16_of_u64, @u32_wrap, @u32_self, @u32_nonneg, @u32_toInt, @u32_of_u8, @u32_of_u16, @u32_of_u64, @u64_wrap, @u64_self, @u64_sub, @UInt64.ofInt_mul, @u64_and, @u64_shr_eq, @u64_nonneg, @u64_toInt, @u64_of_u8, @u64_of_u16, @u64_of_u32⟩
abbrev ci := @Int.cast_ofNat_Int
abbrev vp0 := And.intro va vc
abbrev vq := And.intro va (And.intro vc vl)
abbrev vr := And.intro va (And.intro vc (And.intro vu vl))
end Go.E
namespace Go.E
theorem get_old {T : Tbl} {i : Nat} {o : AObj} (h : T[i]? = some o) (l : Tbl) : (T ++ l)[i]? = some o := by
 rw [List.getElem?_append_left (List.getElem?_eq_some_iff.1 h).1]; exact h
def Sl (T : Tbl) (sz : Nat) (a : AV) (cs : List AV) (n : Nat) : Prop := cs.length = n * sz /\ (a = .vs cs n ∨
 (∃ i off o ds, a = .sl i off n /\ T[i]? = some o /\ o.cs = some ds /\ off + n * sz <= ds.length /\ (ds.drop off).take (n * sz) = cs) ∨ (a = .p (.slice none 0 0) /\ n = 0))
def AV.sub (sz : Nat) (a : AV) (l h : Nat) : AV := match a with
 | .sl i off _ => .sl i (off + l * sz) (h - l)
 | .vs cs _ => .vs ((cs.drop (l * sz)).take ((h - l) * sz)) (h - l)
 | a => a
def AV.pl (a : AV) (k : Nat) : AV := match a with
 | .sl i off _ => .ptr i (off + k)
 | .vs cs _ => .vp cs k
 | a => a
section
variable {P : Program} {T : Tbl} {sz n : Nat} {a : AV} {cs : List AV} {K : AV -> Prop}
theorem Sl.app (h : Sl T sz a cs n) (l : Tbl) : Sl (T ++ l) sz a cs n := by
 obtain ⟨hl, h | ⟨i, off, o, ds, h1, h2, h3⟩ | h⟩ := h
 . exact ⟨hl, .inl h⟩
 . exact ⟨hl, .inr (.inl ⟨i, off, o, ds, h1, get_old h2 l, h3⟩)⟩
 . exact ⟨hl, .inr (.inr h)⟩
theorem Sl.ln (h : Sl T sz a cs n) (s : Nat) : lnA (.slice s) a T K = K (.p (.int .i64 n)) := by
 obtain ⟨hl, rfl | ⟨i, off, o, ds, rfl, h2, h3⟩ | ⟨rfl, rfl⟩⟩ := h <;> rfl
theorem Sl.len (h : Sl T sz a cs n) {KN : Nat -> Prop} : lenA a KN = KN n := by
 obtain ⟨hl, rfl | ⟨i, off, o, ds, rfl, h2, h3⟩ | ⟨rfl, rfl⟩⟩ := h <;> rfl
theorem Sl.pc (h : Sl T sz a cs n) (l m : Nat) : pcA sz a l m T K = ((l <= m /\ m <= n) /\ K (a.sub sz l m)) := by
 obtain ⟨hl, rfl | ⟨i, off, o, ds, rfl, h2, h3⟩ | ⟨rfl, rfl⟩⟩ := h
 . rfl
 . rfl
 . simp only [pcA, AV.sub]
   apply propext
   constructor
   . rintro ⟨⟨rfl, rfl⟩, h⟩; exact ⟨by omega, h⟩
   . rintro ⟨⟨h1, h2⟩, h⟩; exact ⟨by omega, h⟩
theorem Sl.src (h : Sl T sz a cs n) {KC : List AV -> Nat -> Prop} : srcA sz a T KC = KC cs n := by
 obtain ⟨hl, rfl | ⟨i, off, o, ds, rfl, g1, g2, g3, g4⟩ | ⟨rfl, rfl⟩⟩ := h
 . simp [srcA, hl]
 . simp only [srcA, g1]
   cases o <;> cases g2 <;> simp [csA, g3, g4]
 . have : cs = [] := List.eq_nil_of_length_eq_zero (by simpa using hl)
   subst this; rfl
theorem Sl.ix (h : Sl T sz a cs n) (h0 : sz ≠ 0) (ik : IntKind) (z : Int) : ixA sz a (.p (.int ik z)) T K = ((0 <= z /\ z < n) /\ K (a.pl (z.toNat * sz))) := by
 have hne : 0 <= z /\ z < n -> 0 < n * sz := fun hz => Nat.mul_pos (by omega) (by omega)
 obtain ⟨hl, rfl | ⟨i, off, o, ds, rfl, g1, g2, g3, g4⟩ | ⟨rfl, rfl⟩⟩ := h
 . simp only [ixA, AV.pl]
   apply propext
   exact ⟨fun h => ⟨⟨h.1.1, h.1.2.1⟩, h.2⟩, fun h => ⟨⟨h.1.1, h.1.2, fun e => by have := hne h.1; subst e; simp at hl; omega⟩, h.2⟩⟩
 . simp only [ixA, g1, AV.pl]
   have hds : 0 <= z /\ z < n -> ds ≠ [] := fun hz e => by
    have := hne hz; subst e; simp at g3; omega
   apply propext
   cases o <;> cases g2 <;> simp only [csA] <;> exact ⟨fun h => ⟨⟨h.1.1, h.1.2.1⟩, h.2⟩, fun h => ⟨⟨h.1.1, h.1.2, hds h.1⟩, h.2⟩⟩
 . simp only [ixA]
   apply propext
   constructor
   . exact fun h => h.elim
   . rintro ⟨h, _⟩; omega
theorem Sl.ld (h : Sl T sz a cs n) {t : TypeId} (ht : tak P t = some false) (k : Nat) (hk : k < n * sz) : loadA P t (a.pl k) T K = getO cs[k]? K := by
 obtain ⟨hl, rfl | ⟨i, off, o, ds, rfl, g1, g2, g3, g4⟩ | ⟨rfl, rfl⟩⟩ := h
 . simp only [AV.pl, loadA, ht, getA]
 . have e : cs[k]? = ds[off + k]? := by rw [<- g4, List.getElem?_take_of_lt hk, List.getElem?_drop]
   simp only [AV.pl, loadA, g1]
   have key : getA (tak P t) (tsz P t) ds (off + k) K = getO cs[k]? K := by rw [ht, e]; rfl
   cases o <;> cases g2 <;> exact key
 . omega
theorem Sl.lds (h : Sl T sz a cs n) {t : TypeId} (ht : tak P t = some true) (k : Nat) (h0 : 0 < tsz P t) (hk : k + tsz P t <= n * sz) : loadA P t (a.pl k) T K = K (.ag ((cs.drop k).take (tsz P t))) := by
 obtain ⟨hl, rfl | ⟨i, off, o, ds, rfl, g1, g2, g3, g4⟩ | ⟨rfl, rfl⟩⟩ := h
 . simp only [AV.pl, loadA, ht, getA]
   apply propext
   exact ⟨fun h => h.2, fun h => ⟨⟨h0, by omega⟩, h⟩⟩
 . have e : (cs.drop k).take (tsz P t) = (ds.drop (off + k)).take (tsz P t) := by
    rw [<- g4, List.drop_take, List.take_take, List.drop_drop]; congr 1; omega
   simp only [AV.pl, loadA, g1]
   have key : getA (tak P t) (tsz P t) ds (off + k) K = K (.ag ((cs.drop k).take (tsz P t))) := by
    rw [ht, e]; exact propext ⟨fun h => h.2, fun h => ⟨⟨h0, by omega⟩, h⟩⟩
   cases o <;> cases g2 <;> exact key
 . omega
theorem Sl.wo (h : Sl T sz a cs n) (q : Nat -> Bool) (hq : ∀ i, i < T.length -> q i = false) : a.wo q = a := by
 obtain ⟨hl, rfl | ⟨i, off, o, ds, rfl, g1, g2, g3, g4⟩ | ⟨rfl, rfl⟩⟩ := h
 . rw [AV.wo]
 . rw [AV.wo, if_neg (by rw [hq _ (List.getElem?_eq_some_iff.1 g1).1]; simp)]
 . rw [AV.wo]
theorem Sl.rules (h : Sl T sz a cs n) (h0 : sz ≠ 0) :
 (∀ (l : Tbl) (s : Nat) (K : AV -> Prop), lnA (.slice s) a (T ++ l) K = K (.p (.int .i64 n))) /\ (∀ (s : Nat) (K : AV -> Prop), lnA (.slice s) a T K = K (.p (.int .i64 n))) /\ (∀ KN : Nat -> Prop, lenA a KN = KN n) /\
 (∀ (l : Tbl) (i j : Nat) (K : AV -> Prop), pcA sz a i j (T ++ l) K = ((i <= j /\ j <= n) /\ K (a.sub sz i j))) /\ (∀ (i j : Nat) (K : AV -> Prop), pcA sz a i j T K = ((i <= j /\ j <= n) /\ K (a.sub sz i j))) /\
 (∀ (l : Tbl) (KC : List AV -> Nat -> Prop), srcA sz a (T ++ l) KC = KC cs n) /\ (∀ (KC : List AV -> Nat -> Prop), srcA sz a T KC = KC cs n) /\
 (∀ (l : Tbl) (ik : IntKind) (z : Int) (K : AV -> Prop), ixA sz a (.p (.int ik z)) (T ++ l) K = ((0 <= z /\ z < n) /\ K (a.pl (z.toNat * sz)))) /\ (∀ (ik : IntKind) (z : Int) (K : AV -> Prop), ixA sz a (.p (.int ik z)) T K = ((0 <= z /\ z < n) /\ K (a.pl (z.toNat * sz)))) /\
 (∀ k : Nat, a.wo (· == T.length + k) = a) /\ (a.wo (· == T.length) = a) /\ (a.wo (fun i => decide (T.length <= i)) = a) :=
 ⟨fun l _ _ => (h.app l).ln _, fun _ _ => h.ln _, fun _ => h.len, fun l _ _ _ => (h.app l).pc _ _, fun _ _ _ => h.pc _ _, fun l _ => (h.app l).src, fun _ => h.src, fun l _ _ _ => (h.app l).ix h0 _ _, fun _ _ _ => h.ix h0 _ _,
  fun k => h.wo _ fun i hi => by simp; omega, h.wo _ fun i hi => by simp; omega, h.wo _ fun i hi => by simp; omega⟩
theorem Sl.loads (h : Sl T sz a cs n) {t : TypeId} (ht : tak P t = some false) :
 (∀ (l : Tbl) (k : Nat) (K : AV -> Prop), k < n * sz -> loadA P t (a.pl k) (T ++ l) K = getO cs[k]? K) /\ (∀ (k : Nat) (K : AV -> Prop), k < n * sz -> loadA P t (a.pl k) T K = getO cs[k]? K) :=
 ⟨fun l k _ hk => (h.app l).ld ht k hk, fun k _ hk => h.ld ht k hk⟩
theorem Sl.vs (cs : List AV) (n : Nat) (h : cs.length = n * sz) : Sl T sz (.vs cs n) cs n := ⟨h, .inl rfl⟩
theorem Sl.obj {i : Nat} {o : AObj} (hT : T[i]? = some o) (hc : o.cs = some cs) (h : cs.length = n * sz) : Sl T sz (.sl i 0 n) cs n := ⟨h, .inr (.inl ⟨i, 0, o, cs, rfl, hT, hc, by omega, by rw [List.drop_zero, List.take_of_length_le (by omega)]⟩)⟩
end
def Bs (T : Tbl) (a : AV) (bs : List UInt8) : Prop := Sl T 1 a (bs.map by8) bs.length
theorem Bs.vs {T : Tbl} (bs : List UInt8) : Bs T (.vs (bs.map by8) bs.length) bs := Sl.vs _ _ (by simp)
theorem take_more {α : Type} (T l : List α) (k : Nat) : List.take (T.length + k) (T ++ l) = T ++ l.take k := by rw [List.take_append, List.take_of_length_le (by omega), Nat.add_sub_cancel_left]
theorem keep_all (T : Tbl) : keepT (fun _ => true) T = T := by
 refine List.ext_getElem? fun i => ?_
 rw [keepT_get]
 cases T[i]? with
 | none => rfl
 | some o => simp [keepO]
theorem vt :
 (∀ (T l : Tbl) (k : Nat), List.take (T.length + k) (T ++ l) = T ++ l.take k) /\
 (∀ n k j : Nat, decide (n + k <= n + j) = decide (k <= j)) /\ (∀ n k : Nat, decide (n + k <= n) = decide (k <= 0)) /\ (∀ n k : Nat, decide (n <= n + k) = true) /\ (∀ n : Nat, decide (n <= n) = true) /\
 (∀ (q : Nat -> Bool) (a b : List AV), List.map (AV.wo q) (a ++ b) = List.map (AV.wo q) a ++ List.map (AV.wo q) b) /\
 (∀ (q : Nat -> Bool) (a b : Tbl), List.map (AObj.wo q) (a ++ b) = List.map (AObj.wo q) a ++ List.map (AObj.wo q) b) /\
 (∀ a b : List AV, ones (a ++ b) = (ones a && ones b)) /\ (∀ l : List AV, (List.replicate 0 l).flatten = []) /\ (∀ x : AV, (List.replicate 1 [x]).flatten = [x]) /\ (∀ l : List AV, [] ++ l = l) /\ (∀ x y : AV, [x].set 0 y = [y]) /\ (∀ x : AV, List.take 1 [x] = [x]) /\ (∀ T, keepT (fun _ => true) T = T) /\ (∀ (i : Nat) (cs : List AV) (a b : Tbl), List.map (AObj.pub i cs) (a ++ b) = List.map (AObj.pub i cs) a ++ List.map (AObj.pub i cs) b) /\ (∀ n k j : Nat, (n + k = n + j) = (k = j)) /\ (∀ n k : Nat, (n = n + k) = (k = 0)) /\ (∀ n k : Nat, (n + k = n) = (k = 0)) /\
 (∀ a : Nat, (a : Int).tmod 64 = ((a % 64 : Nat) : Int)) /\ (∀ a : Nat, (a : Int).tmod 4 = ((a % 4 : Nat) : Int)) /\ (∀ a : Nat, (a : Int).tdiv 4 = ((a / 4 : Nat) : Int)) /\ (∀ a : Nat, (a : Int).tmod 8 = ((a % 8 : Nat) : Int)) /\ (∀ a : Nat, (a : Int).tdiv 8 = ((a / 8 : Nat) : Int)) /\ (∀ a : Nat, (a : Int).tmod 2 = ((a % 2 : Nat) : Int)) /\ (∀ a : Nat, (a : Int).tdiv 2 = ((a / 2 : Nat) : Int)) := by
 refine ⟨take_more, ?_, ?_, ?_, ?_, fun _ _ _ => List.map_append, fun _ _ _ => List.map_append, fun _ _ => List.all_append, fun _ => rfl, fun _ => rfl, fun _ => rfl, fun _ _ => rfl, fun _ => rfl, keep_all, fun _ _ _ _ => List.map_append, ?_, ?_, ?_, fun _ => rfl, fun _ => rfl, fun _ => rfl, fun _ => rfl, fun _ => rfl, fun _ => rfl, fun _ => rfl⟩ <;> intros <;> simp <;> omega
structure Wfs (T : Tbl) (args : List AV) : Prop where
 wf : ∀ q : Nat -> Bool, (∀ i, i < T.length -> q i = false) -> T.map (AObj.wo q) = T /\ args.map (AV.wo q) = args
theorem Wfs.t {T : Tbl} {args : List AV} (h : Wfs T args) : (∀ k, T.map (AObj.wo (fun i => decide (T.length + k <= i))) = T) /\ (T.map (AObj.wo (fun i => decide (T.length <= i))) = T) /\ (∀ k, T.map (AObj.wo (fun i => i == T.length + k)) = T) /\ (T.map (AObj.wo (fun i => i == T.length)) = T) :=
 ⟨fun k => (h.wf _ fun i hi => by simp; omega).1, (h.wf _ fun i hi => by simp; omega).1, fun k => (h.wf _ fun i hi => by simp; omega).1, (h.wf _ fun i hi => by simp; omega).1⟩
mutual
theorem pub_wo (i : Nat) (cs : List AV) : ∀ a : AV, a.wo (fun j => j == i) = a -> a.pub i cs = a
 | .ptr j o, h => by
   rw [AV.wo] at h; rw [AV.pub]
   by_cases hj : j = i
   . simp [hj] at h
   . rw [if_neg hj]
 | .sl j o n, h => by
   rw [AV.wo] at h; rw [AV.pub]
   by_cases hj : j = i
   . simp [hj] at h
   . rw [if_neg hj]
 | .mp j, h => by
   rw [AV.wo] at h; rw [AV.pub]
   by_cases hj : j = i
   . simp [hj] at h
   . rw [if_neg hj]
 | .yl j, h => by
   rw [AV.wo] at h; rw [AV.pub]
   by_cases hj : j = i
   . simp [hj] at h
   . rw [if_neg hj]
 | .ag l, h => by rw [AV.wo, AV.ag.injEq] at h; rw [AV.pub, pub_woL i cs l h]
 | .tu l, h => by rw [AV.wo, AV.tu.injEq] at h; rw [AV.pub, pub_woL i cs l h]
 | .fn f l, h => by rw [AV.wo, AV.fn.injEq] at h; rw [AV.pub, pub_woL i cs l h.2]
 | .ic t v, h => by rw [AV.wo, AV.ic.injEq] at h; rw [AV.pub, pub_wo i cs v h.2]
 | .p v, _ => by rw [AV.pub]
 | .any, _ => by rw [AV.pub]
 | .vp l o, _ => by rw [AV.pub]
 | .vs l n, _ => by rw [AV.pub]
theorem pub_woL (i : Nat) (cs : List AV) : ∀ l : List AV, AV.woL (fun j => j == i) l = l -> AV.pubL i cs l = l
 | [], _ => by rw [AV.pubL]
 | a :: r, h => by rw [AV.woL, List.cons.injEq] at h; rw [AV.pubL, pub_wo i cs a h.1, pub_woL i cs r h.2]
end
theorem pub_woO (i : Nat) (cs : List AV) (o : AObj) (h : o.wo (fun j => j == i) = o) : o.pub i cs = o := by
 cases o with
 | cells T l => rw [AObj.wo, AObj.cells.injEq, <- AV.woL_eq] at h; rw [AObj.pub, <- AV.pubL_eq, pub_woL i cs l h.2]
 | buf T sz l => rw [AObj.wo, AObj.buf.injEq, <- AV.woL_eq] at h; rw [AObj.pub, <- AV.pubL_eq, pub_woL i cs l h.2.2]
 | map es =>
   rw [AObj.wo, AObj.map.injEq] at h
   rw [AObj.pub, AObj.map.injEq]
   refine (List.map_congr_left fun e he => ?_).trans (List.map_id es)
   have := List.map_inj_left.1 (h.trans (List.map_id es).symm) e he
   have h2 : e.2.wo (fun j => j == i) = e.2 := congrArg Prod.snd this
   rw [pub_wo i cs e.2 h2]; rfl
 | raw o => rfl
 | rcd o l vs => rw [AObj.wo, AObj.rcd.injEq, <- AV.woL_eq] at h; rw [AObj.pub, <- AV.pubL_eq, pub_woL i cs l h.2.1]
 | gone => rfl
theorem Wfs.p {T : Tbl} {args : List AV} (h : Wfs T args) : (∀ k cs, T.map (AObj.pub (T.length + k) cs) = T) /\ (∀ cs, T.map (AObj.pub T.length cs) = T) := by
 have key : ∀ j, T.length <= j -> ∀ cs, T.map (AObj.pub j cs) = T := by
  intro j hj cs
  refine (List.map_congr_left fun o ho => ?_).trans (List.map_id T)
  refine pub_woO j cs o ?_
  exact List.map_inj_left.1 ((h.wf (fun i => i == j) fun i hi => by simp; omega).1.trans (List.map_id T).symm) o ho
 exact ⟨fun k cs => key _ (by omega) cs, fun cs => key _ (Nat.le_refl _) cs⟩
theorem CallA.wfs {P : Program} {G : Nat -> AV} {T : Tbl} {K : AV -> Tbl -> Eff -> Prop} {f : FuncId} {args : List AV} (h : Wfs T args -> CallA P G f args T K) : CallA P G f args T K := CallA.wf fun w => h ⟨w⟩
end Go.E
namespace Go.E
section
variable {P : Program} {k : TypeId}
open Classical in
theorem findNow_of {d : TypeDesc} {x : Value} (hs : ∀ y : Value, (Instr.sameNow d x y).isSome = true -> Instr.sameNow d x y = some (decide (y = x))) : ∀ (es : List MapEntry) (i : Nat), (∀ e ∈ es, (Instr.sameNow d x e.key).isSome = true) ->
 Instr.findNow d x es i = some ((kfind es x).map fun p => (p.1 + i, p.2))
 | [], i, _ => rfl
 | e :: es, i, h => by
   have h1 := hs e.key (h e (by simp))
   have ih := findNow_of hs es (i + 1) fun e he => h e (by simp [he])
   by_cases hk : e.key = x
   . have : Instr.findNow d x (e :: es) i = some (some (i, e.val)) := by rw [Instr.findNow, h1, decide_eq_true hk]
     rw [this]
     simp [kfind, List.findIdx?_cons, hk]
   . have : Instr.findNow d x (e :: es) i = Instr.findNow d x es (i + 1) := by rw [Instr.findNow, h1, decide_eq_false hk]
     rw [this, ih]
     unfold kfind
     rw [List.findIdx?_cons]
     simp only [decide_eq_false hk, Bool.false_eq_true, if_false]
     cases hf : es.findIdx? (fun e => decide (e.key = x)) with
     | none => rfl
     | some j =>
       have hj := (List.findIdx?_eq_some_iff_getElem.1 hf).1
       simp [hj]; omega
open Classical in
theorem KL.plain {d : TypeDesc} {S : Value -> Prop} (hd : tk P k = d) (hk : tis d = true) (hw : ∀ v, S v -> MapKept.IsKey d v) (hb : ∀ v, S v -> Instr.sameBits 10000 v v = true)
 (hs : ∀ x y, S x -> S y -> Instr.sameNow d x y = some (decide (y = x))) (hs' : ∀ x y, S x -> (Instr.sameNow d x y).isSome = true -> Instr.sameNow d x y = some (decide (y = x))) : KL P k S where
 check := fun w em v h => MapKept.run_checkKey (und_of hd hk) (hw v h) em 9999
 find := fun w x hx es hes _ => by
  have := findNow_of (d := d) (x := x) (fun y => hs' x y hx) es 0 fun e he => by rw [hs x e.key hx (hes e he)]; rfl
  have e2 : ((kfind es x).map fun p => (p.1 + 0, p.2)) = kfind es x := by cases kfind es x <;> rfl
  rw [e2] at this
  exact MapKept.run_findKey (und_of hd hk) this
 stays := fun w v h => by simp [Instr.keyThatStays, hb v h]
theorem sb_int (q : IntKind) (m : Int) : ∀ n, Instr.sameBits n (.int q m) (.int q m) = true
 | 0 => by rw [Instr.sameBits]; simp only [beq_self_eq_true, Bool.and_self]
 | n + 1 => by rw [Instr.sameBits]; simp only [beq_self_eq_true, Bool.and_self]
theorem beq_bytes (a b : ByteArray) : (a == b) = true ↔ a = b := by
 rw [beq_toListBytes, beq_iff_eq]
 constructor
 . intro h
   have : a.data.toList = b.data.toList := by simpa [ByteArray.toList_eq] using h
   cases a; cases b; simp_all
 . rintro rfl; rfl
theorem sb_str (s : ByteArray) : ∀ n, Instr.sameBits n (.string s) (.string s) = true
 | 0 => by rw [Instr.sameBits]; exact (beq_bytes s s).2 rfl
 | n + 1 => by rw [Instr.sameBits]; exact (beq_bytes s s).2 rfl
theorem sn_int (q q' : IntKind) (n m : Int) : Instr.sameNow (.int q) (.int q n) (.int q' m) = if q = q' then some (n == m) else none := rfl
theorem sn_str (a b : ByteArray) : Instr.sameNow .string (.string a) (.string b) = some (a == b) := rfl
open Classical in
theorem KL.int {q : IntKind} (hd : tk P k = .int q) : KL P k (fun v => ∃ n, v = .int q n) := by
 refine .plain hd rfl ?_ ?_ ?_ ?_
 . rintro _ ⟨n, rfl⟩; simp [MapKept.IsKey]
 . rintro _ ⟨n, rfl⟩; exact sb_int _ _ _
 . rintro _ _ ⟨n, rfl⟩ ⟨m, rfl⟩
   simp only [sn_int, if_true, Option.some.injEq, Value.int.injEq, true_and]
   rw [Bool.eq_iff_iff]; simp only [beq_iff_eq, decide_eq_true_iff]; exact eq_comm
 . rintro _ y ⟨n, rfl⟩ h
   cases y <;> first | (simp [Instr.sameNow] at h; done) | skip
   rename_i k' m
   rw [sn_int] at h
   by_cases e : q = k'
   . subst e
     simp only [sn_int, if_true, Option.some.injEq, Value.int.injEq, true_and]
     rw [Bool.eq_iff_iff]; simp only [beq_iff_eq, decide_eq_true_iff]; exact eq_comm
   . simp [e] at h
open Classical in
theorem KL.string (hd : tk P k = .string) : KL P k (fun v => ∃ s, v = .string s) := by
 refine .plain hd rfl ?_ ?_ ?_ ?_
 . rintro _ ⟨n, rfl⟩; simp [MapKept.IsKey]
 . rintro _ ⟨n, rfl⟩; exact sb_str _ _
 . rintro _ _ ⟨n, rfl⟩ ⟨m, rfl⟩
   simp only [sn_str, Option.some.injEq, Value.string.injEq]
   rw [Bool.eq_iff_iff]; simp only [beq_bytes, decide_eq_true_iff]; exact eq_comm
 . rintro _ y ⟨n, rfl⟩ h
   cases y <;> first | (simp [Instr.sameNow] at h; done) | skip
   simp only [sn_str, Option.some.injEq, Value.string.injEq]
   rw [Bool.eq_iff_iff]; simp only [beq_bytes, decide_eq_true_iff]; exact eq_comm
inductive Lf where
 | b
 | i (q : IntKind)
 | s
def leafL (P : Program) (t : TypeId) (l : List Lf) : Option (List Lf) := if l.length = P.cellsOf t then some l else none
def leaf (P : Program) : Nat -> TypeId -> Option (List Lf)
 | 0, _ => none
 | d + 1, t => match P.underlying t with
   | some .bool => leafL P t [.b]
   | some (.int q) => leafL P t [.i q]
   | some .string => leafL P t [.s]
   | some (.array n e) => (leaf P d e).bind fun l => leafL P t (List.replicate n l).flatten
   | some (.struct fs) => (fs.toList.mapM fun f => leaf P d f.type).bind fun ls => leafL P t ls.flatten
   | _ => none
variable {ls : List Lf}
theorem pureK_det {K : AV -> Prop} {s : Sem Value} {v : Value} (h : ∀ w, s.run P w = .ok v w) : pureK P K s = K (.p v) := by
 refine propext ⟨fun ⟨u, h1, h2⟩ => ?_, fun hk => ⟨v, fun w _ => h w, hk⟩⟩
 have := h1 default trivial
 rw [h default] at this
 cases this; exact h2
end
end Go.E
namespace Go.E
section
variable {P : Program} {G : Nat -> AV} {Z Z' Z0 : Heap} {ρ ρ' ρ0 : List BI} {T T' T0 : Tbl} {w w' w0 : World} {a b : AV} {u v : Value} {K : AV -> Tbl -> Eff -> Prop} {cs : List AV} {es E : Eff}
variable {N n m : Nat} {ro : Option Nat} {ds loc : List AV} {tmp : List (Nat × AV)} {Nk R : AKont} {X : Nat -> AKont}
inductive PT where
 | nil : PT
 | st : Nat -> Bool -> PT -> PT
 | alt : Nat -> PT -> Nat -> PT -> PT
def PT.isNil : PT -> Bool
 | .nil => true
 | _ => false
theorem stepT {Q : Exit -> Act -> World -> Prop} {n m cl f : Nat} {base : Nat -> Value} {l : List Oper} {ds : List Nat} {listed : Array Bool} {i : Nat} {I : World -> Prop} {loc : List Value} {tmp : List (Nat × Value)} {w : World} {a : Act} {F : (World -> Prop) -> List Value -> List (Nat × Value) -> World -> Prop} (hall : l.all (dstIn m) = true)
 (h : planO n base l l[i]? loc tmp
  (fun o => opV P (ev n base loc tmp) o.op o.type w fun v w' => putK n o.dst v loc tmp fun loc tmp => ∃ I', (I' w' /\ ∀ w, I' w -> I w) /\ F I' loc tmp w')
  (fun o => putK n o.dst undef loc tmp fun loc tmp => F I loc tmp w)) (ha : Agree n base loc tmp a) (hs : a.tmps.size = m) (hd : a.defers = ds.map markOf) (hI : I w)
 (hF : ∀ (I' : World -> Prop) loc tmp w a, F I' loc tmp w -> I' w -> Agree n base loc tmp a -> a.tmps.size = m -> a.defers = ds.map markOf -> AnyI ro P l.toArray Q cl I' f (listed.setIfInBounds i true) a w) :
 wpOpIn (fz ro) 0 P l.toArray Q i (AnyI ro P l.toArray Q cl I f (listed.setIfInBounds i true)) a w := by
 cases ho : l[i]? with
 | none => simp only [ho, planO] at h
 | some o =>
   have hoi : l.toArray[i]? = some o := by simpa using ho
   have hmem : o ∈ l := List.mem_of_getElem? ho
   have hd1 : dstIn m o = true := List.all_eq_true.1 hall o hmem
   have hdst : ∀ t, o.dst = some t -> t < a.tmps.size := by rw [hs]; exact dstIn_spec hd1
   unfold wpOpIn
   simp only [hoi]
   simp only [ho, planO] at h
   rw [<- ha.ev] at h
   rcases grdV_wanted h with ⟨hw, h⟩ | ⟨hw, h⟩
   . rw [if_pos hw]
     refine (opV_step h).wp fun v w' hv => ?_
     obtain ⟨loc', tmp', ha', I', hI', hv'⟩ := ha.put hdst v hv
     exact (hF I' loc' tmp' w' _ hv' hI'.1 ha' (by cases o.dst <;> simp [Act.put, hs]) (by cases o.dst <;> simp [Act.put, hd])).mono hI'.2
   . rw [if_neg (by rw [hw]; simp)]
     obtain ⟨loc', tmp', ha', hv'⟩ := ha.put hdst undef h
     exact ⟨fun f _ => fz_fn f, hF I loc' tmp' w _ hv' hI ha' (by cases o.dst <;> simp [Act.put, hs]) (by cases o.dst <;> simp [Act.put, hd])⟩
def planTA (P : Program) (G : Nat -> AV) (N n : Nat) (ops : List Oper) (cl : Option Nat) (keep : Nat -> Bool) : List AV -> PT -> List AV -> List (Nat × AV) -> Tbl -> Eff -> (K : AKont) -> Prop
 | ds, .nil, loc, tmp, T, E, K => K ds loc tmp T E
 | ds, .st i true r, loc, tmp, T, E, K => planOA ops ops[i]? (evA G n loc tmp)
  (fun o => rdA P (evA G n loc tmp) o.op o.type (keepT keep T) fun v => putA n o.dst v loc tmp fun loc tmp => planTA P G N n ops cl keep ds r loc tmp T E K)
  (fun o => putA n o.dst (.p undef) loc tmp fun loc tmp => planTA P G N n ops cl keep ds r loc tmp T E K)
 | ds, .st i false r, loc, tmp, T, E, K => planOA ops ops[i]? (evA G n loc tmp)
  (fun o => opA P G (evA G n loc tmp) o.op o.type T fun v T' es => putA n o.dst v (slots es loc) (slotsT es tmp) fun loc tmp => (keepOK keep es = true ∨ r.isNil = true ∨ some i = cl) /\ planTA P G N n ops cl keep (slots es ds) r loc tmp T' (recE N es E) K)
  (fun o => putA n o.dst (.p undef) loc tmp fun loc tmp => planTA P G N n ops cl keep ds r loc tmp T E K)
 | ds, .alt i r j s, loc, tmp, T, E, K => planOA ops ops[i]? (evA G n loc tmp)
  (fun o => opA P G (evA G n loc tmp) o.op o.type T fun v T' es => putA n o.dst v (slots es loc) (slotsT es tmp) fun loc tmp => (keepOK keep es = true) /\ planTA P G N n ops cl keep (slots es ds) r loc tmp T' (recE N es E) K)
  (fun o => putA n o.dst (.p undef) loc tmp fun loc tmp => planTA P G N n ops cl keep ds r loc tmp T E K) /\
   planOA ops ops[j]? (evA G n loc tmp)
    (fun o => opA P G (evA G n loc tmp) o.op o.type T fun v T' es => putA n o.dst v (slots es loc) (slotsT es tmp) fun loc tmp => (keepOK keep es = true) /\ planTA P G N n ops cl keep (slots es ds) s loc tmp T' (recE N es E) K)
    (fun o => putA n o.dst (.p undef) loc tmp fun loc tmp => planTA P G N n ops cl keep ds s loc tmp T E K)
theorem RelT.all (tv : List (Nat × Value)) : RelT Z ρ (tv.map fun p => (p.1, AV.p p.2)) tv := by
 induction tv with
 | nil => exact .nil
 | cons p r ih => exact .cons (.p _) ih
theorem vp :
 (∀ (P : Program) (G : Nat -> AV) (N n : Nat) (ops : List Oper) (cl : Option Nat) (keep : Nat -> Bool) (ds : List AV) (loc : List AV) (tmp : List (Nat × AV)) (T : Tbl) (E : Eff) (K : AKont), planTA P G N n ops cl keep ds .nil loc tmp T E K = K ds loc tmp T E) /\
 (∀ (P : Program) (G : Nat -> AV) (N n : Nat) (ops : List Oper) (cl : Option Nat) (keep : Nat -> Bool) (ds : List AV) (loc : List AV) (tmp : List (Nat × AV)) (T : Tbl) (E : Eff) (K : AKont) (i : Nat) (r : PT), planTA P G N n ops cl keep ds (.st i true r) loc tmp T E K = (planOA ops ops[i]? (evA G n loc tmp)
     (fun o => rdA P (evA G n loc tmp) o.op o.type (keepT keep T) fun v => putA n o.dst v loc tmp fun loc tmp => planTA P G N n ops cl keep ds r loc tmp T E K)
     (fun o => putA n o.dst (.p undef) loc tmp fun loc tmp => planTA P G N n ops cl keep ds r loc tmp T E K))) /\
 (∀ (P : Program) (G : Nat -> AV) (N n : Nat) (ops : List Oper) (cl : Option Nat) (keep : Nat -> Bool) (ds : List AV) (loc : List AV) (tmp : List (Nat × AV)) (T : Tbl) (E : Eff) (K : AKont) (i : Nat) (r : PT), planTA P G N n ops cl keep ds (.st i false r) loc tmp T E K = (planOA ops ops[i]? (evA G n loc tmp)
     (fun o => opA P G (evA G n loc tmp) o.op o.type T fun v T' es => putA n o.dst v (slots es loc) (slotsT es tmp) fun loc tmp => (keepOK keep es = true ∨ r.isNil = true ∨ some i = cl) /\ planTA P G N n ops cl keep (slots es ds) r loc tmp T' (recE N es E) K)
     (fun o => putA n o.dst (.p undef) loc tmp fun loc tmp => planTA P G N n ops cl keep ds r loc tmp T E K))) /\
 (∀ (P : Program) (G : Nat -> AV) (N n : Nat) (ops : List Oper) (cl : Option Nat) (keep : Nat -> Bool) (ds : List AV) (loc : List AV) (tmp : List (Nat × AV)) (T : Tbl) (E : Eff) (K : AKont) (i : Nat) (r : PT) (j : Nat) (s : PT), planTA P G N n ops cl keep ds (.alt i r j s) loc tmp T E K = (planOA ops ops[i]? (evA G n loc tmp)
     (fun o => opA P G (evA G n loc tmp) o.op o.type T fun v T' es => putA n o.dst v (slots es loc) (slotsT es tmp) fun loc tmp => (keepOK keep es = true) /\ planTA P G N n ops cl keep (slots es ds) r loc tmp T' (recE N es E) K)
     (fun o => putA n o.dst (.p undef) loc tmp fun loc tmp => planTA P G N n ops cl keep ds r loc tmp T E K) /\
  planOA ops ops[j]? (evA G n loc tmp)
   (fun o => opA P G (evA G n loc tmp) o.op o.type T fun v T' es => putA n o.dst v (slots es loc) (slotsT es tmp) fun loc tmp => (keepOK keep es = true) /\ planTA P G N n ops cl keep (slots es ds) s loc tmp T' (recE N es E) K)
   (fun o => putA n o.dst (.p undef) loc tmp fun loc tmp => planTA P G N n ops cl keep ds s loc tmp T E K))) /\ (PT.nil.isNil = true) /\ (∀ i b r, (PT.st i b r).isNil = false) /\ (∀ i r j s, (PT.alt i r j s).isNil = false) :=
 ⟨fun _ _ _ _ _ _ _ _ _ _ _ _ _ => rfl, fun _ _ _ _ _ _ _ _ _ _ _ _ _ _ _ => rfl, fun _ _ _ _ _ _ _ _ _ _ _ _ _ _ _ => rfl, fun _ _ _ _ _ _ _ _ _ _ _ _ _ _ _ _ _ => rfl, rfl, fun _ _ _ => rfl, fun _ _ _ _ => rfl⟩
end
end Go.E
namespace Go.E
section
variable {P : Program} {G : Nat -> AV} {Z Z' Z0 : Heap} {ρ ρ' ρ0 : List BI} {T T' T0 : Tbl} {w w' w0 : World} {a b : AV} {u v : Value} {K : AV -> Tbl -> Eff -> Prop} {cs : List AV} {es E : Eff}
variable {N n m : Nat} {ro : Option Nat} {ds loc : List AV} {tmp : List (Nat × AV)} {Nk R : AKont} {X : Nat -> AKont}
inductive PS where
 | nil : PS
 | fl : Nat -> PS -> PS
 | fp : Nat -> PS -> PS
 | sq : Nat -> PS -> PS
def plV (P : Program) (ρ : Operand -> Value) (o : Op) (K : Value -> Prop) (_ : Tag K := .mk) : Prop := match o with
 | .binOp op t x y _ => binV P op t (ρ x) (ρ y) x y (fun _ => False) K
 | .unOp op _ x => unV op (ρ x) (fun _ => False) K
 | .convert s t x => convV (tk P s) (tk P t) s t (ρ x) (fun _ => False) K
 | _ => False
theorem plV_float {evV : Operand -> Value} {o : Op} {ty : TypeId} {I : World -> Prop} {K : Value -> Prop} (h : plV P evV o K) : floatV P evV o ty I K := by
 unfold plV at h
 unfold floatV
 split at h
 . simp only [valV]; exact binV_mono h (fun _ h => h.elim) fun _ h => h
 . simp only [valV]; exact unV_mono h (fun _ h => h.elim) fun _ h => h
 . simp only [valV]; exact convV_mono h (fun _ h => h.elim) fun _ h => h
 . exact h.elim
def plA (P : Program) (ρ : Operand -> AV) (o : Op) (K : AV -> Prop) (_ : Tag K := .mk) : Prop := match o with
 | .binOp op t x y _ => isP (ρ x) fun a => isP (ρ y) fun b => binV P op t a b x y (fun _ => False) fun v => K (.p v)
 | .unOp op _ x => isP (ρ x) fun a => unV op a (fun _ => False) fun v => K (.p v)
 | .convert s t x => isP (ρ x) fun a => convV (tk P s) (tk P t) s t a (fun _ => False) fun v => K (.p v)
 | _ => False
theorem plA_sound {evA : Operand -> AV} {evV : Operand -> Value} {o : Op} {K : AV -> Prop} (he : ∀ x, Rel Z ρ (evA x) (evV x)) (h : plA P evA o K) : plV P evV o fun v => K (.p v) := by
 unfold plA at h
 unfold plV
 split at h
 . exact isP_elim (isP_elim h (he _)) (he _)
 . exact isP_elim h (he _)
 . exact isP_elim h (he _)
 . exact h.elim
def PS.len : PS -> Nat
 | .nil => 0
 | .fl _ r => r.len + 1
 | .fp _ r => r.len + 1
 | .sq _ r => r.len + 1
def PS.cl (d : Nat) : PS -> Nat
 | .nil => d
 | .fl _ r => r.cl d
 | .fp _ r => r.cl d
 | .sq i _ => i
def planOKS (ops : Array Oper) : PS -> Nat -> Array Bool -> Bool
 | .nil, _, listed => (Region.ready .any ops listed).isEmpty
 | .fl i r, cl, listed => ((Region.ready .any ops listed).contains i && Region.free .any ops listed i && (cl != i && ((match ops[i]? with | none => false | some oi => pureOp oi.op) || blocks ops cl i listed))) && planOKS ops r cl (listed.setIfInBounds i true)
 | .fp i r, cl, listed => ((Region.ready .any ops listed).contains i && Region.free .any ops listed i && cl != i) && planOKS ops r cl (listed.setIfInBounds i true)
 | .sq i r, cl, listed => (Region.ready .any ops listed == [i] && (i == cl && decide (i < listed.size))) && planOKS ops r (r.cl ops.size) (listed.setIfInBounds i true)
def planS (P : Program) (n : Nat) (base : Nat -> Value) (ops : List Oper) (ds : List Nat) : PS -> (World -> Prop) -> List Value -> List (Nat × Value) -> World -> (K : Kont) -> Prop
 | .nil, _, loc, tmp, w, K => K ds loc tmp w
 | .fl i r, I, loc, tmp, w, K => planO n base ops ops[i]? loc tmp
   (fun o => floatV P (ev n base loc tmp) o.op o.type I fun v => putK n o.dst v loc tmp fun loc tmp => planS P n base ops ds r I loc tmp w K)
   (fun o => putK n o.dst undef loc tmp fun loc tmp => planS P n base ops ds r I loc tmp w K)
 | .fp i r, I, loc, tmp, w, K => planO n base ops ops[i]? loc tmp
   (fun o => plV P (ev n base loc tmp) o.op fun v => putK n o.dst v loc tmp fun loc tmp => planS P n base ops ds r I loc tmp w K)
   (fun o => putK n o.dst undef loc tmp fun loc tmp => planS P n base ops ds r I loc tmp w K)
 | .sq i r, I, loc, tmp, w, K => planO n base ops ops[i]? loc tmp
   (fun o => opV P (ev n base loc tmp) o.op o.type w fun v w' => putK n o.dst v loc tmp fun loc tmp => ∃ I', I' w' /\ planS P n base ops ds r I' loc tmp w' K)
   (fun o => putK n o.dst undef loc tmp fun loc tmp => ∃ I', I' w /\ planS P n base ops ds r I' loc tmp w K)
theorem getD_set_true {l : Array Bool} {cl i : Nat} (h : l.getD cl false = true) : (l.setIfInBounds i true).getD cl false = true := by
 by_cases hic : i = cl
 . subst hic
   simp only [Array.getD_eq_getD_getElem?, Array.getElem?_setIfInBounds]
   by_cases hb : i < l.size
   . simp [hb]
   . simp [hb] at h
 . rw [getD_set_ne false hic]; exact h
theorem AnyI.swap {ops : Array Oper} {Q : Exit -> Act -> World -> Prop} {cl cl' : Nat} {I J : World -> Prop} : ∀ (f : Nat) (listed : Array Bool) (a : Act) (w : World), listed.getD cl false = true -> AnyI ro P ops Q cl' J f listed a w -> AnyI ro P ops Q cl I f listed a w
 | 0, _, _, _, hl, h => ⟨fun h' => (by rw [hl] at h'; cases h'), h.2⟩
 | f + 1, listed, _, _, hl, h => ⟨fun h' => (by rw [hl] at h'; cases h'), h.2.1, fun i hi => wpOpIn_mono (fun a w => AnyI.swap f _ a w (getD_set_true hl)) (h.2.2 i hi)⟩
theorem planS_any {Q : Exit -> Act -> World -> Prop} {n m : Nat} {base : Nat -> Value} {l : List Oper} {ds : List Nat} {K : Kont} (hsel : Region.noSelect l.toArray = true) (hdef : noDefer l.toArray = true) (hQ : ∀ c (a a' : Act) w, Q (.panic c) a w -> Q (.panic c) a' w) (hall : l.all (dstIn m) = true) :
 ∀ (pl : PS) (cl : Nat) (listed : Array Bool) (I : World -> Prop) (loc : List Value) (tmp : List (Nat × Value)) (w : World) (a : Act), planS P n base l ds pl I loc tmp w K -> planOKS l.toArray pl cl listed = true -> (listed.getD cl false = false -> I w) ->
  Agree n base loc tmp a -> a.tmps.size = m -> a.defers = ds.map markOf ->
  (∀ loc tmp w a, Agree n base loc tmp a -> a.tmps.size = m -> a.defers = ds.map markOf -> K ds loc tmp w -> Q .normal a w) -> AnyI ro P l.toArray Q cl I pl.len listed a w
 | .nil, cl, listed, I, loc, tmp, w, a, h, hpl, hI, ha, hs, hd, hK => by
   simp only [planOKS, List.isEmpty_iff] at hpl
   exact ⟨hI, hpl, hK loc tmp w a ha hs hd h⟩
 | .fl i r, cl, listed, I, loc, tmp, w, a, h, hpl, hI, ha, hs, hd, hK => by
   rw [planOKS, Bool.and_eq_true] at hpl
   obtain ⟨hpl1, hpl2⟩ := hpl
   cases ho : l[i]? with
   | none => simp only [planS, ho, planO] at h
   | some o =>
     have hoi : l.toArray[i]? = some o := by simpa using ho
     have hmem : o ∈ l := List.mem_of_getElem? ho
     have hd1 : dstIn m o = true := List.all_eq_true.1 hall o hmem
     have hdst : ∀ t, o.dst = some t -> t < a.tmps.size := by rw [hs]; exact dstIn_spec hd1
     have hnext : ∀ v, ((listed.setIfInBounds i true).getD cl false = false -> I w) -> (putK n o.dst v loc tmp fun loc tmp => planS P n base l ds r I loc tmp w K) -> AnyI ro P l.toArray Q cl I r.len (listed.setIfInBounds i true) (a.put o.dst v) w := by
      intro v hI' hv
      obtain ⟨loc', tmp', ha', hv'⟩ := ha.put hdst v hv
      exact planS_any hsel hdef hQ hall r _ _ I loc' tmp' w _ hv' hpl2 hI' ha' (by cases o.dst <;> simp [Act.put, hs]) (by cases o.dst <;> simp [Act.put, hd]) hK
     simp only [planS, ho, planO] at h
     rw [<- ha.ev] at h
     simp only [Bool.and_eq_true, List.contains_iff_mem, Bool.or_eq_true, Bool.not_eq_true', bne_iff_ne, ne_eq, hoi] at hpl1
     obtain ⟨⟨hp1, hp2⟩, hp4, hp3⟩ := hpl1
     have hnext' : ∀ v, (putK n o.dst v loc tmp fun loc tmp => planS P n base l ds r I loc tmp w K) -> AnyI ro P l.toArray Q cl I r.len (listed.setIfInBounds i true) (a.put o.dst v) w := fun v hk =>
      hnext v (fun hl => hI (by rw [getD_set_ne false (Ne.symm hp4)] at hl; exact hl)) hk
     rcases hp3 with hp3 | hp3
     . have hgive : ∃ v, GivesI P l.toArray (fun _ => True) o v a /\ putK n o.dst v loc tmp fun loc tmp => planS P n base l ds r I loc tmp w K := by
        rcases grdV_wanted h with ⟨hw, h⟩ | ⟨hw, h⟩
        . obtain ⟨v, hv, hk⟩ := floatV_run (floatV_pure hp3 h)
          exact ⟨v, .inl ⟨hw, hv⟩, hk⟩
        . exact ⟨undef, .inr ⟨hw, rfl⟩, h⟩
       obtain ⟨v, hg, hk⟩ := hgive
       exact AnyI_first2 [] (.inl fun _ => trivial) hp4 hoi (Region.noSelect_spec hsel) (noDefer_spec hdef) (fun c a w => hQ c _ _ w) r.len listed a w (fun j oj hj hne hun hno => Region.free_spec hoi hp2 j oj hj hne hun hno) (.inl fun _ => trivial) hp1 hg (hnext' v hk)
     . have hgive : ∃ v, GivesI P l.toArray I o v a /\ putK n o.dst v loc tmp fun loc tmp => planS P n base l ds r I loc tmp w K := by
        rcases grdV_wanted h with ⟨hw, h⟩ | ⟨hw, h⟩
        . obtain ⟨v, hv, hk⟩ := floatV_run h
          exact ⟨v, .inl ⟨hw, hv⟩, hk⟩
        . exact ⟨undef, .inr ⟨hw, rfl⟩, h⟩
       obtain ⟨v, hg, hk⟩ := hgive
       simp only [blocks, Bool.and_eq_true, Bool.or_eq_true, Bool.not_eq_true', List.contains_iff_mem, List.all_eq_true] at hp3
       obtain ⟨⟨⟨hb1, hb2⟩, hb3⟩, hb4⟩ := hp3
       refine AnyI_first2 (waitsFor l.toArray i) (.inr ⟨fun _ h => h, ?_, fun j hj oj hoj => ?_⟩) hp4 hoi (Region.noSelect_spec hsel) (noDefer_spec hdef) (fun c a w => hQ c _ _ w) r.len listed a w (fun j oj hj hne hun hno => Region.free_spec hoi hp2 j oj hj hne hun hno) (.inr ⟨hb3, hb4⟩) hp1 hg (hnext' v hk)
       . rcases hb2 with h | h
         . exact .inl h
         . right
           split at h
           . assumption
           . cases h
       . have := List.all_eq_true.1 hb1 j hj
         rw [hoj] at this
         obtain ⟨k, hk, hk'⟩ := Array.any_eq_true.1 this
         simp only [Bool.and_eq_true, Bool.or_eq_true, beq_iff_eq, List.contains_iff_mem] at hk'
         exact ⟨_, Array.getElem_mem hk, hk'⟩
 | .fp i r, cl, listed, I, loc, tmp, w, a, h, hpl, hI, ha, hs, hd, hK => by
   rw [planOKS, Bool.and_eq_true] at hpl
   obtain ⟨hpl1, hpl2⟩ := hpl
   cases ho : l[i]? with
   | none => simp only [planS, ho, planO] at h
   | some o =>
     have hoi : l.toArray[i]? = some o := by simpa using ho
     have hmem : o ∈ l := List.mem_of_getElem? ho
     have hd1 : dstIn m o = true := List.all_eq_true.1 hall o hmem
     have hdst : ∀ t, o.dst = some t -> t < a.tmps.size := by rw [hs]; exact dstIn_spec hd1
     have hnext : ∀ v, ((listed.setIfInBounds i true).getD cl false = false -> I w) -> (putK n o.dst v loc tmp fun loc tmp => planS P n base l ds r I loc tmp w K) -> AnyI ro P l.toArray Q cl I r.len (listed.setIfInBounds i true) (a.put o.dst v) w := by
      intro v hI' hv
      obtain ⟨loc', tmp', ha', hv'⟩ := ha.put hdst v hv
      exact planS_any hsel hdef hQ hall r _ _ I loc' tmp' w _ hv' hpl2 hI' ha' (by cases o.dst <;> simp [Act.put, hs]) (by cases o.dst <;> simp [Act.put, hd]) hK
     simp only [planS, ho, planO] at h
     rw [<- ha.ev] at h
     simp only [Bool.and_eq_true, List.contains_iff_mem, bne_iff_ne, ne_eq] at hpl1
     obtain ⟨⟨hp1, hp2⟩, hp4⟩ := hpl1
     have hnext' : ∀ v, (putK n o.dst v loc tmp fun loc tmp => planS P n base l ds r I loc tmp w K) -> AnyI ro P l.toArray Q cl I r.len (listed.setIfInBounds i true) (a.put o.dst v) w := fun v hk =>
      hnext v (fun hl => hI (by rw [getD_set_ne false (Ne.symm hp4)] at hl; exact hl)) hk
     have hgive : ∃ v, GivesI P l.toArray (fun _ => True) o v a /\ putK n o.dst v loc tmp fun loc tmp => planS P n base l ds r I loc tmp w K := by
      rcases grdV_wanted h with ⟨hw, h⟩ | ⟨hw, h⟩
      . obtain ⟨v, hv, hk⟩ := floatV_run (I := fun _ => True) (plV_float h)
        exact ⟨v, .inl ⟨hw, hv⟩, hk⟩
      . exact ⟨undef, .inr ⟨hw, rfl⟩, h⟩
     obtain ⟨v, hg, hk⟩ := hgive
     exact AnyI_first2 [] (.inl fun _ => trivial) hp4 hoi (Region.noSelect_spec hsel) (noDefer_spec hdef) (fun c a w => hQ c _ _ w) r.len listed a w (fun j oj hj hne hun hno => Region.free_spec hoi hp2 j oj hj hne hun hno) (.inl fun _ => trivial) hp1 hg (hnext' v hk)
 | .sq i r, cl, listed, I, loc, tmp, w, a, h, hpl, hI, ha, hs, hd, hK => by
   rw [planOKS] at hpl
   simp only [Bool.and_eq_true, beq_iff_eq, decide_eq_true_eq] at hpl
   obtain ⟨⟨hp1, rfl, hp2⟩, hpl2⟩ := hpl
   cases ho : l[i]? with
   | none => simp only [planS, ho, planO] at h
   | some o =>
     have hoi : l.toArray[i]? = some o := by simpa using ho
     have hmem : o ∈ l := List.mem_of_getElem? ho
     have hd1 : dstIn m o = true := List.all_eq_true.1 hall o hmem
     have hdst : ∀ t, o.dst = some t -> t < a.tmps.size := by rw [hs]; exact dstIn_spec hd1
     refine ⟨hI, fun e => (by rw [e] at hp1; cases hp1), fun j hj => ?_⟩
     rw [hp1, List.mem_singleton] at hj
     subst hj
     have hset : (listed.setIfInBounds j true).getD j false = true := by simp [hp2]
     unfold wpOpIn
     simp only [hoi]
     simp only [planS, ho, planO] at h
     rw [<- ha.ev] at h
     have hfin : ∀ v w', (putK n o.dst v loc tmp fun loc tmp => ∃ I', I' w' /\ planS P n base l ds r I' loc tmp w' K) -> AnyI ro P l.toArray Q j I r.len (listed.setIfInBounds j true) (a.put o.dst v) w' := by
      intro v w' hv
      obtain ⟨loc', tmp', ha', I', hI', hv'⟩ := ha.put hdst v hv
      exact (planS_any hsel hdef hQ hall r _ _ I' loc' tmp' w' (a.put o.dst v) hv' hpl2 (fun _ => hI') ha' (by cases o.dst <;> simp [Act.put, hs]) (by cases o.dst <;> simp [Act.put, hd]) hK).swap _ _ _ _ hset
     rcases grdV_wanted h with ⟨hw, h⟩ | ⟨hw, h⟩
     . rw [if_pos hw]
       exact (opV_step h).wp hfin
     . rw [if_neg (by rw [hw]; simp)]
       exact ⟨fun f _ => fz_fn f, hfin _ _ h⟩
def planSA (P : Program) (G : Nat -> AV) (N n : Nat) (ops : List Oper) : List AV -> PS -> List AV -> List (Nat × AV) -> Tbl -> Eff -> (K : AKont) -> (_ : Tag K := .mk) -> Prop
 | ds, .nil, loc, tmp, T, E, K, _ => K ds loc tmp T E
 | ds, .fl i r, loc, tmp, T, E, K, _ => planOA ops ops[i]? (evA G n loc tmp)
  (fun o => rdA P (evA G n loc tmp) o.op o.type T fun v => putA n o.dst v loc tmp fun loc tmp => planSA P G N n ops ds r loc tmp T E K)
  (fun o => putA n o.dst (.p undef) loc tmp fun loc tmp => planSA P G N n ops ds r loc tmp T E K)
 | ds, .fp i r, loc, tmp, T, E, K, _ => planOA ops ops[i]? (evA G n loc tmp)
  (fun o => plA P (evA G n loc tmp) o.op fun v => putA n o.dst v loc tmp fun loc tmp => planSA P G N n ops ds r loc tmp T E K)
  (fun o => putA n o.dst (.p undef) loc tmp fun loc tmp => planSA P G N n ops ds r loc tmp T E K)
 | ds, .sq i r, loc, tmp, T, E, K, _ => planOA ops ops[i]? (evA G n loc tmp)
  (fun o => opA P G (evA G n loc tmp) o.op o.type T fun v T' es => putA n o.dst v (slots es loc) (slotsT es tmp) fun loc tmp => planSA P G N n ops (slots es ds) r loc tmp T' (recE N es E) K)
  (fun o => putA n o.dst (.p undef) loc tmp fun loc tmp => planSA P G N n ops ds r loc tmp T E K)
theorem planSA_sound {n : Nat} {base : Nat -> Value} {ops : List Oper} {K : AKont} : ∀ (pl : PS) (ds loc : List AV) (tmp : List (Nat × AV)) (dv : List Nat) (lv : List Value) (tv : List (Nat × Value)) (Z : Heap) (ρ : List BI) (T : Tbl) (w : World) (E : Eff),
 planSA P G ρ0.length n ops ds pl loc tmp T E K -> Frm G Z0 ρ0 T0 w0 Z ρ T w E -> At Z ρ ds loc tmp dv lv tv -> planS P n base ops dv pl (Agr Z ρ T w) lv tv w (LK G Z0 ρ0 T0 w0 K)
 | .nil, ds, loc, tmp, dv, lv, tv, Z, ρ, T, w, E, h, hf, ha => ⟨Z, ρ, T, E, ds, loc, tmp, hf, ha.ds, ha.loc, ha.tmp, h⟩
 | .fl i r, ds, loc, tmp, dv, lv, tv, Z, ρ, T, w, E, h, hf, ha => by
   simp only [planSA, planOA] at h
   simp only [planS, planO]
   have he := evA_rel (n := n) (base := base) hf.g ha.loc ha.tmp
   cases ho : ops[i]? with
   | none => rw [ho] at h; exact h.elim
   | some o =>
     rw [ho] at h
     simp only at h ⊢
     refine grdA_sound h he (fun h => ?_) (fun h => ?_)
     . refine valV_mono (rdA_sound hf.st he h) (fun _ _ h => h) (fun s h => FloatP.mono h (fun _ h => h) ?_) ?_
       all_goals
        rintro v ⟨a, h1, h2⟩
        exact putA_sound h2 h1 ha fun loc tmp lv tv hk hat => planSA_sound r _ _ _ _ _ _ _ _ _ _ _ hk hf hat
     . exact putA_sound h (.p _) ha fun loc tmp lv tv hk hat => planSA_sound r _ _ _ _ _ _ _ _ _ _ _ hk hf hat
 | .fp i r, ds, loc, tmp, dv, lv, tv, Z, ρ, T, w, E, h, hf, ha => by
   simp only [planSA, planOA] at h
   simp only [planS, planO]
   have he := evA_rel (n := n) (base := base) hf.g ha.loc ha.tmp
   cases ho : ops[i]? with
   | none => rw [ho] at h; exact h.elim
   | some o =>
     rw [ho] at h
     simp only at h ⊢
     refine grdA_sound h he (fun h => ?_) (fun h => ?_)
     . have := plA_sound he h
       unfold plV at this ⊢
       split at this
       . exact binV_mono this (fun _ h => h) fun v hk => putA_sound hk (.p _) ha fun loc tmp lv tv hk hat => planSA_sound r _ _ _ _ _ _ _ _ _ _ _ hk hf hat
       . exact unV_mono this (fun _ h => h) fun v hk => putA_sound hk (.p _) ha fun loc tmp lv tv hk hat => planSA_sound r _ _ _ _ _ _ _ _ _ _ _ hk hf hat
       . exact convV_mono this (fun _ h => h) fun v hk => putA_sound hk (.p _) ha fun loc tmp lv tv hk hat => planSA_sound r _ _ _ _ _ _ _ _ _ _ _ hk hf hat
       . exact this.elim
     . exact putA_sound h (.p _) ha fun loc tmp lv tv hk hat => planSA_sound r _ _ _ _ _ _ _ _ _ _ _ hk hf hat
 | .sq i r, ds, loc, tmp, dv, lv, tv, Z, ρ, T, w, E, h, hf, ha => by
   simp only [planSA, planOA] at h
   simp only [planS, planO]
   have he := evA_rel (n := n) (base := base) hf.g ha.loc ha.tmp
   cases ho : ops[i]? with
   | none => rw [ho] at h; exact h.elim
   | some o =>
     rw [ho] at h
     simp only at h ⊢
     refine grdA_sound h he (fun h => ?_) (fun h => ?_)
     . refine opV_mono (opA_sound hf.g hf.st he h) fun v w' h2 => ?_
       obtain ⟨Z', ρ', T', es, a, k1, k2, k3, k4⟩ := h2
       exact putA_sound k4 k3 (ha.step k2) fun loc tmp lv tv hk hat => ⟨Agr Z' ρ' T' w', agr_self k1, planSA_sound r _ _ _ _ _ _ _ _ _ _ _ hk (hf.step k1 k2) hat⟩
     . exact putA_sound h (.p _) ha fun loc tmp lv tv hk hat => ⟨Agr Z ρ T w, agr_self hf.st, planSA_sound r _ _ _ _ _ _ _ _ _ _ _ hk hf hat⟩
theorem SemA.drawS {id : Nat} {ops : Array Oper} (pl : PS) (hm : P.follows .mixedOrders = true)
 (hok : (Region.noSelect ops && noDefer ops && ops.toList.all (dstIn m) && pl.len == ops.size && planOKS ops pl (pl.cl ops.size) (Array.replicate ops.size false)) = true)
 (h : planSA P G N n ops.toList ds pl loc [] T E Nk) : SemA P G N ro n m (.region id ops true) ds loc tmp T E Nk X R := by
 simp only [Bool.and_eq_true, beq_iff_eq] at hok
 obtain ⟨⟨⟨⟨h1, h0⟩, h2⟩, h3⟩, h4⟩ := hok
 intro Z0 ρ0 T0 w0 Z ρ w dv lv tv hN hf ha
 refine SemV.cleared ?_
 intro a haa Qs hQs
 refine wpIn_mono (Q := fun e a w => ∃ dv lv tv, Fits' n m dv lv tv a /\ mkQ (LK G Z0 ρ0 T0 w0 Nk) (fun i => LK G Z0 ρ0 T0 w0 (X i)) (LK G Z0 ρ0 T0 w0 R) e dv lv tv w) ?_ (fun e a w ⟨ds, loc, tmp, hf, hq⟩ => hQs _ _ _ _ _ _ hf hq)
 have hdr : Alike { w with drawn := w.drawn + 1 } w := ⟨rfl, rfl, rfl⟩
 have hf' := hf.same hdr
 subst hN
 refine wpIn_region_any hm (AnyI.any (cl := pl.cl ops.size) (I := Agr Z ρ T { w with drawn := w.drawn + 1 }) _ _ _ _ ?_)
 have := planS_any (P := P) (ro := ro) (Q := fun e a w => ∃ dv lv tv, Fits' n m dv lv tv a /\ mkQ (LK G Z0 ρ0 T0 w0 Nk) (fun i => LK G Z0 ρ0 T0 w0 (X i)) (LK G Z0 ρ0 T0 w0 R) e dv lv tv w) (l := ops.toList) (K := LK G Z0 ρ0 T0 w0 Nk) (by simpa using h1) (by simpa using h0) (fun c a a' w ⟨ds, loc, tmp, _, hq⟩ => hq.elim) h2 pl (pl.cl ops.size)
  (Array.replicate ops.size false) (Agr Z ρ T { w with drawn := w.drawn + 1 }) lv [] { w with drawn := w.drawn + 1 } a (planSA_sound pl ds loc [] dv lv [] Z ρ T _ E h hf' ha.clear) (by simpa using h4) (fun _ => agr_self hf'.st) haa.clear haa.size haa.defers
  (fun loc tmp w a h1 h2 h3 hk => ⟨dv, loc, tmp, ⟨⟨_, h1⟩, h2, h3⟩, hk⟩)
 rw [h3] at this
 simpa using this
theorem vy :
 (∀ (P : Program) (G : Nat -> AV) (N n : Nat) (ops : List Oper) (ds loc : List AV) (tmp : List (Nat × AV)) (T : Tbl) (E : Eff) (K : AKont), planSA P G N n ops ds .nil loc tmp T E K = K ds loc tmp T E) /\
 (∀ (P : Program) (G : Nat -> AV) (N n : Nat) (ops : List Oper) (ds loc : List AV) (tmp : List (Nat × AV)) (T : Tbl) (E : Eff) (K : AKont) (i : Nat) (r : PS), planSA P G N n ops ds (.fl i r) loc tmp T E K = (planOA ops ops[i]? (evA G n loc tmp)
     (fun o => rdA P (evA G n loc tmp) o.op o.type T fun v => putA n o.dst v loc tmp fun loc tmp => planSA P G N n ops ds r loc tmp T E K)
     (fun o => putA n o.dst (.p undef) loc tmp fun loc tmp => planSA P G N n ops ds r loc tmp T E K))) /\
 (∀ (P : Program) (G : Nat -> AV) (N n : Nat) (ops : List Oper) (ds loc : List AV) (tmp : List (Nat × AV)) (T : Tbl) (E : Eff) (K : AKont) (i : Nat) (r : PS), planSA P G N n ops ds (.sq i r) loc tmp T E K = (planOA ops ops[i]? (evA G n loc tmp)
     (fun o => opA P G (evA G n loc tmp) o.op o.type T fun v T' es => putA n o.dst v (slots es loc) (slotsT es tmp) fun loc tmp => planSA P G N n ops (slots es ds) r loc tmp T' (recE N es E) K)
     (fun o => putA n o.dst (.p undef) loc tmp fun loc tmp => planSA P G N n ops ds r loc tmp T E K))) /\
 (∀ (P : Program) (G : Nat -> AV) (N n : Nat) (ops : List Oper) (ds loc : List AV) (tmp : List (Nat × AV)) (T : Tbl) (E : Eff) (K : AKont) (i : Nat) (r : PS), planSA P G N n ops ds (.fp i r) loc tmp T E K = (planOA ops ops[i]? (evA G n loc tmp)
     (fun o => plA P (evA G n loc tmp) o.op fun v => putA n o.dst v loc tmp fun loc tmp => planSA P G N n ops ds r loc tmp T E K)
     (fun o => putA n o.dst (.p undef) loc tmp fun loc tmp => planSA P G N n ops ds r loc tmp T E K))) /\
 (∀ (P : Program) (ρ : Operand -> AV) (op : BinOp) (t : TypeId) (x y : Operand) (u : TypeId) (K : AV -> Prop), plA P ρ (.binOp op t x y u) K = isP (ρ x) fun a => isP (ρ y) fun b => binV P op t a b x y (fun _ => False) fun v => K (.p v)) /\
 (∀ (P : Program) (ρ : Operand -> AV) (op : UnOp) (t : TypeId) (x : Operand) (K : AV -> Prop), plA P ρ (.unOp op t x) K = isP (ρ x) fun a => unV op a (fun _ => False) fun v => K (.p v)) /\
 (∀ (P : Program) (ρ : Operand -> AV) (s t : TypeId) (x : Operand) (K : AV -> Prop), plA P ρ (.convert s t x) K = isP (ρ x) fun a => convV (tk P s) (tk P t) s t a (fun _ => False) fun v => K (.p v)) :=
 ⟨fun _ _ _ _ _ _ _ _ _ _ _ => rfl, fun _ _ _ _ _ _ _ _ _ _ _ _ _ => rfl, fun _ _ _ _ _ _ _ _ _ _ _ _ _ => rfl, fun _ _ _ _ _ _ _ _ _ _ _ _ _ => rfl, fun _ _ _ _ _ _ _ _ => rfl, fun _ _ _ _ _ _ => rfl, fun _ _ _ _ _ _ => rfl⟩
end
end Go.E
namespace Go.E
section
variable {P : Program} {G : Nat -> AV} {Z Z' Z0 : Heap} {ρ ρ' ρ0 : List BI} {T T' T0 : Tbl} {w w' w0 : World} {a b : AV} {u v : Value} {K : AV -> Tbl -> Eff -> Prop} {cs : List AV} {es E : Eff}
variable {N n m : Nat} {ro : Option Nat} {ds loc : List AV} {tmp : List (Nat × AV)} {Nk R : AKont} {X : Nat -> AKont}
def subE (E E' : Eff) : Prop := ∀ x ∈ E, x ∈ E'
def Ct {σ : Type} (n : Nat) (ds : List AV) (L : σ -> List (Nat × AV)) (Tb : σ -> Tbl) (Q : σ -> Prop) (Ei : Eff) : AKont := fun ds' loc' _ T' E' => ds' = ds /\ (∃ s, Q s /\ Lc n (L s) loc' /\ T' = Tb s) /\ subE E' Ei
theorem SemA.of {c : Code} (hok : codeOK m c = true) (h : codeA P G N ro n m c ds loc tmp T E Nk X R) : SemA P G N ro n m c ds loc tmp T E Nk X R := codeA_sound c _ _ _ _ _ _ _ _ h hok
theorem SemA.o {c : Code} (h : codeA P G N ro n m c ds loc tmp T E Nk X R) (hok : codeOK m c = true := by kernel_rfl) : SemA P G N ro n m c ds loc tmp T E Nk X R := SemA.of hok h
theorem SemA.seq {a b : Code} {Mk : AKont} (h : SemA P G N ro n m a ds loc tmp T E Mk X R) (hb : ∀ ds loc tmp T E, Mk ds loc tmp T E -> SemA P G N ro n m b ds loc tmp T E Nk X R) : SemA P G N ro n m (.seq a b) ds loc tmp T E Nk X R :=
 fun Z0 ρ0 T0 w0 Z ρ w dv lv tv hN hf ha => SemV.seq (h Z0 ρ0 T0 w0 Z ρ w dv lv tv hN hf ha) fun dv lv tv w ⟨Z, ρ, T, E, ds, loc, tmp, hf, h1, h2, h3, hk⟩ =>
  hb ds loc tmp T E hk Z0 ρ0 T0 w0 Z ρ w dv lv tv hN hf ⟨h1, h2, h3⟩
theorem Ct.elim {σ : Type} {L : σ -> List (Nat × AV)} {Tb : σ -> Tbl} {Q : σ -> Prop} {Ei : Eff} {dv : List Nat} {lv : List Value} {tv : List (Nat × Value)} (h : LK G Z0 ρ0 T0 w0 (Ct n ds L Tb Q Ei) dv lv tv w) :
 ∃ s g Z ρ, Q s /\ Frm G Z0 ρ0 T0 w0 Z ρ (Tb s) w Ei /\ At Z ρ ds (mkA g (L s) 0 n) (tv.map fun p => (p.1, AV.p p.2)) dv lv tv := by
 obtain ⟨Z, ρ, T, E, ds, loc, tmp, hf, h1, h2, h3, rfl, ⟨s, hs, hl, rfl⟩, hE⟩ := h
 obtain ⟨g, rfl⟩ := hl.elim
 exact ⟨s, g, Z, ρ, hs, hf.more hE, h1, h2, RelT.all tv⟩
theorem Ct.to {σ : Type} {L : σ -> List (Nat × AV)} {Tb : σ -> Tbl} {Q : σ -> Prop} {Ei : Eff} {dv : List Nat} {lv : List Value} {tv : List (Nat × Value)} {K : AKont} (h : LK G Z0 ρ0 T0 w0 (Ct n ds L Tb Q Ei) dv lv tv w)
 (hk : ∀ s g tmp, Q s -> K ds (mkA g (L s) 0 n) tmp (Tb s) Ei) : LK G Z0 ρ0 T0 w0 K dv lv tv w := by
 obtain ⟨s, g, Z, ρ, hs, hf, ha⟩ := Ct.elim h
 exact ⟨Z, ρ, _, _, _, _, _, hf, ha.ds, ha.loc, ha.tmp, hk s g _ hs⟩
def spl : Nat -> Code -> Option (Code × Code)
 | 1, .seq a r => some (a, r)
 | k + 2, .seq a r => (spl (k + 1) r).map fun p => (.seq a p.1, p.2)
 | _, _ => none
theorem SemA.cutAt {σ : Type} (dsC : List AV) (L : σ -> List (Nat × AV)) (Tb : σ -> Tbl) (Q : σ -> Prop) (Ei : Eff) : ∀ (k : Nat) {c c1 c2 : Code} {ds loc : List AV} {tmp : List (Nat × AV)} {T : Tbl} {E : Eff}, spl k c = some (c1, c2) -> codeOK m c1 = true ->
 codeA P G N ro n m c1 ds loc tmp T E (Ct n dsC L Tb Q Ei) X R -> (∀ s g tmp, Q s -> SemA P G N ro n m c2 dsC (mkA g (L s) 0 n) tmp (Tb s) Ei Nk X R) -> SemA P G N ro n m c ds loc tmp T E Nk X R
 | 0, c, c1, c2, _, _, _, _, _, hs, _, _, _ => by simp [spl] at hs
 | 1, c, c1, c2, ds, loc, tmp, T, E, hs, hok, h1, h2 => by
   cases c <;> simp only [spl] at hs <;> first | cases hs | skip
   refine SemA.seq (Mk := Ct n dsC L Tb Q Ei) (SemA.of hok h1) ?_
   rintro ds loc tmp T E ⟨rfl, ⟨s, hs, hl, rfl⟩, hE⟩
   obtain ⟨g, rfl⟩ := hl.elim
   intro Z0 ρ0 T0 w0 Z ρ w dv lv tv hN hf ha
   exact h2 s g _ hs Z0 ρ0 T0 w0 Z ρ w dv lv tv hN (hf.more hE) ha
 | k + 2, c, c1, c2, ds, loc, tmp, T, E, hs, hok, h1, h2 => by
   cases c <;> simp only [spl] at hs <;> first | cases hs | skip
   rename_i a r
   simp only [Option.map_eq_some_iff] at hs
   obtain ⟨⟨x, y⟩, hs1, hs2⟩ := hs
   simp only [Prod.mk.injEq] at hs2
   obtain ⟨rfl, rfl⟩ := hs2
   simp only [codeOK, Bool.and_eq_true] at hok
   refine SemA.seq (SemA.of hok.1 h1) ?_
   intro ds loc tmp T E h
   exact SemA.cutAt dsC L Tb Q Ei (k + 1) hs1 hok.2 h h2
theorem SemA.loopE {σ τ : Type} {c : Code} (L : σ -> List (Nat × AV)) (Tb : σ -> Tbl) (Q : σ -> Prop) (μ : σ -> Nat) (s0 : σ) (Ei : Eff) (xi : Nat) (Le : τ -> List (Nat × AV)) (Te : τ -> Tbl) (Qe : τ -> Prop) (hQ : Q s0) (hL : Lc n (L s0) loc) (hT : T = Tb s0) (hE : ∀ x ∈ E, x ∈ Ei)
 (round : ∀ s g, Q s -> SemA P G N ro n m c ds (mkA g (L s) 0 n) [] (Tb s) Ei (Ct n ds L Tb (fun s' => Q s' /\ μ s' < μ s) Ei) (fun j => if j = xi then Ct n ds Le Te Qe Ei else X j) R)
 (exit : ∀ s g tmp, Qe s -> X xi ds (mkA g (Le s) 0 n) tmp (Te s) Ei) : SemA P G N ro n m (.loop c) ds loc [] T E Nk X R := by
 intro Z0 ρ0 T0 w0 Z ρ w dv lv tv hN hf ha a haa Qs hQs
 refine wpIn_loop_ghost (fun k a w => ∃ (Z : Heap) (ρ : List BI) (s : σ) (loc : List AV) (dv : List Nat) (lv : List Value) (tv : List (Nat × Value)), Fits' n m dv lv tv a /\ Frm G Z0 ρ0 T0 w0 Z ρ (Tb s) w Ei /\ At Z ρ ds loc [] dv lv [] /\ (Q s /\ Lc n (L s) loc) /\ μ s = k)
  (μ s0) ⟨Z, ρ, s0, loc, dv, lv, tv, haa, hT ▸ hf.more hE, ha.clear, ⟨hQ, hL⟩, rfl⟩ ?_
 rintro k a w ⟨Z, ρ, s, loc, dv, lv, tv, haa, hf, hat, ⟨hI, hL⟩, rfl⟩
 obtain ⟨g, rfl⟩ := hL.elim
 have hr := round s g hI Z0 ρ0 T0 w0 Z ρ w dv lv [] hN hf hat
 refine hr a haa.cleared _ fun e dv' lv' tv' w' a' haa' hq => ?_
 cases e with
 | normal =>
   obtain ⟨Z', ρ', T', E', ds', loc', tmp', g1, g2, g3, g4, rfl, ⟨s', ⟨h1, h2⟩, h3, rfl⟩, g6⟩ := hq
   exact ⟨_, h2, Z', ρ', s', loc', dv', lv', tv', haa', g1.more g6, ⟨g2, g3, .nil⟩, ⟨h1, h3⟩, rfl⟩
 | exit i =>
   simp only [mkQ] at hq
   split at hq
   . rename_i hi; subst hi; exact hQs (.exit _) _ _ _ _ _ haa' (Ct.to hq exit)
   . exact hQs (.exit i) _ _ _ _ _ haa' hq
 | ret => exact hQs .ret _ _ _ _ _ haa' hq
 | _ => exact hq.elim
theorem CallA.enterZ {f : FuncId} {fn : Func} {c : Code} {args : List AV} {m : Nat} {rs : List ResultVar} (n : Nat) (hf : P.funcs[f]? = some fn) (hm : fn.ntmps = m) (hrs : fn.results.toList = rs) (hb : fn.body = some c) (hn : (args.length <= n /\ n <= m)) (hr : rsLt n rs = true)
 (h : SemA P G T.length none n m c [] (args ++ List.replicate (n - args.length) (.p undef)) [] T [] (retA P rs (Vw G T K)) (fun _ _ _ _ _ _ => False) (retA P rs (Vw G T K))) : CallA P G f args T K := by
 subst hm; subst hrs
 have this : CallA P G f args T (Vw G T K) := by
  intro Z ρ w vs hG hs ha
  have hl := ha.1
  refine Ret.enterS n hf hb ⟨by simp; omega, hn.2⟩ ?_
  have hsem := h Z ρ T w Z ρ w [] (vs ++ List.replicate (n - vs.length) undef) [] hs.len ⟨hG, hs, Ext.refl rfl⟩ ⟨.nil, ha.append (by rw [hl]; have := RelL.ps (Z := Z) (ρ := ρ) (List.replicate (n - vs.length) undef); rwa [List.map_replicate] at this), .nil⟩
  have e : (vs.toArray.toList ++ List.replicate (n - vs.toArray.size) undef) = vs ++ List.replicate (n - vs.length) undef := by simp
  rw [e]
  refine hsem.mono fun e dv lv tv w' hq => ?_
  cases e with
  | normal => obtain ⟨Z', ρ', T', E', ds', loc', tmp', g1, g2, g3, g4, g5⟩ := hq; exact retA_sound g1 g2 g3 hr g5
  | ret => obtain ⟨Z', ρ', T', E', ds', loc', tmp', g1, g2, g3, g4, g5⟩ := hq; exact retA_sound g1 g2 g3 hr g5
  | exit i => obtain ⟨Z', ρ', T', E', ds', loc', tmp', g1, g2, g3, g4, g5⟩ := hq; exact g5.elim
  | _ => exact hq.elim
 intro Z ρ w vs hG hs ha
 refine (this Z ρ w vs hG hs ha).mono fun x w' ⟨Z', ρ', T', es, a, h1, h2, h3, h4⟩ => ?_
 exact h4 Z ρ w Z' ρ' w' x hs ⟨hG.mono h2.le, h1, h2⟩ h3
theorem vze : (∀ E : Eff, subE [] E = True) /\ (∀ E : Eff, subE E E = True) /\ (∀ (i : Nat) (b : Bool) (E E' : Eff), subE ((i, b) :: E) ((i, b) :: E') = subE E ((i, b) :: E')) :=
 ⟨fun _ => by simp [subE], fun _ => by simp [subE], fun i b E E' => by simp [subE]⟩
theorem vz {σ : Type} : (∀ (n : Nat) (ds : List AV) (L : σ -> List (Nat × AV)) (Tb : σ -> Tbl) (Q : σ -> Prop) (Ei : Eff) (ds' loc' : List AV) (tmp' : List (Nat × AV)) (T' : Tbl) (E' : Eff), Ct n ds L Tb Q Ei ds' loc' tmp' T' E' = (ds' = ds /\ (∃ s, Q s /\ Lc n (L s) loc' /\ T' = Tb s) /\ subE E' Ei)) :=
 fun _ _ _ _ _ _ _ _ _ _ _ => rfl
end
end Go.E
