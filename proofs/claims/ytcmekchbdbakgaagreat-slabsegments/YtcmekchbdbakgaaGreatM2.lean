/- A part of the proof of a law: the symbolic executor, contracts of functions of the program, plain laws. No conditions. -/
import Derived.Test.YtcmekchbdbakgaaGreatM1
import Derived.ArgAppend
import Derived.RangeFuncOwn
import Derived.Laws.MakeOwn
import Derived.Laws.OwnMore
import Derived.Maps.AppendAt
import Derived.Laws.IdiomStrings
import Derived.RangeFuncLeaves
set_option linter.unusedVariables false
set_option linter.unusedSimpArgs false
set_option linter.unusedSectionVars false
section
/- A symbolic executor over loaded Go code: operations one after the other. -/
namespace Go.Sx
open Go Go.RowKit

def FW (ro : Option Nat) : Fence := { Fence.wide with round := ro }

def Enters (P : Program) (f : FuncId) : Prop := ∀ (args : Array Value) (w : World), (callFunc f args).run P w = .ok (.enter f args) w
theorem enters_mk {P : Program} {f : FuncId} {fn : Func} (hf : P.funcs[f]? = some fn) (hn : (fn.name == "runtime.NumGoroutine") = false) (hb : fn.body.isNone = false) : Enters P f := by
 intro args w
 unfold callFunc
 show ((Sem.program Sem.pure).bind _).run P w = _
 simp only [Sem.bind, Sem.run, hf, hn, hb]
 rfl

def evs (st : SS) : List Operand → Option (List SV)
 | [] => some []
 | x :: r => match ev st x, evs st r with
   | some sv, some l => some (sv :: l)
   | _, _ => none
def CP.sv : CP → SV
 | .e x => .o (.v x)
 | .l k => .o (.p k 0)
def app {α : Type} : List α → List α → List α
 | [], l => l
 | x :: r, l => x :: app r l
theorem app_eq {α : Type} : ∀ (k l : List α), app k l = k ++ l
 | [], l => rfl
 | x :: r, l => by simp [app, app_eq r l]
def vsv : List Value → List SV
 | [] => []
 | x :: r => .o (.v x) :: vsv r
def csv : List CP → List SV
 | [] => []
 | .e x :: r => .o (.v x) :: csv r
 | .l k :: r => .o (.p k 0) :: csv r
def callee (fv : Option SV) (args : List SV) : Option (FuncId × List SV) := match fv with
 | some (.o (.v (.func (.func g) first caps))) => some (g, app (vsv first.toList) (app args (vsv caps.toList)))
 | some (.o (.clo g caps)) => some (g, app args (csv caps))
 | _ => none

structure PVC (c : Prop) (K : Prop) : Prop where
 c : c
 k : K
def andc : Option Prop → Prop → Prop
 | none, K => K
 | some c, K => PVC c K
theorem andc_inv {c : Option Prop} {K : Prop} (h : andc c K) : (∀ p, c = some p → p) ∧ K := by
 cases c with
 | none => exact ⟨fun _ h => (by cases h), h⟩
 | some c => exact ⟨fun p hp => by cases hp; exact h.c, h.k⟩

def mkV (agg : Bool) (vs : List Value) : SV := bif agg then .o (.v (.agg ⟨vs⟩)) else match vs with
 | [y] => .o (.v y)
 | _ => .o (.v undef)
structure LoadVC (st : SS) (n : Nat) (agg : Bool) (A : Option Addr) (K : SV → Prop) : Prop where
 out : ∃ vs : List Value, vs.length = n ∧ (agg = false → n = 1) ∧ (∀ w, (∀ R ∈ st.re, R.φ w) → ∃ b o, A = some ⟨b, o, none⟩ ∧ ∀ j v, vs[j]? = some v → w.cell? ⟨b, o + j, none⟩ = some v) ∧ K (mkV agg vs)
structure RowVC (cs : List Value) (off n : Nat) (agg : Bool) (K : SV → Prop) : Prop where
 pos : 0 < n
 out : ∃ l : List Value, l.length = n ∧ (agg = false → n = 1) ∧ (∀ j x, l[j]? = some x → cs[off + j]? = some x) ∧ K (mkV agg l)
structure CallVC (P : Program) (C : Cx) (g : FuncId) (args : List SV) (st : SS) (K : SV → SS → Prop) : Prop where
 enters : Enters P g
 out : ∀ E w, MemOk C E st.me st.re w → Calls P g (args.map (SV.real E)).toArray w fun e w' => ∃ E' st' x, e = .returned (x.real E') ∧ MemOk C E' st'.me st'.re w' ∧ KD w w' ∧
   (∀ i sv, lk i st'.tm = some sv → ∃ sv0, lk i st.tm = some sv0 ∧ sv.real E' = sv0.real E) ∧ K x st'

structure YieldVC (P : Program) (C : Cx) (l : Nat) (args : List SV) (st : SS) (K : SV → SS → Prop) : Prop where
 out : ∀ E w, MemOk C E st.me st.re w → ∀ ro m, YieldAt (FW ro) m P l (args.map (SV.real E)).toArray w fun e w' => ∃ E' st' x, e = .returned (x.real E') ∧ MemOk C E' st'.me st'.re w' ∧ KD w w' ∧
   (∀ i sv, lk i st'.tm = some sv → ∃ sv0, lk i st.tm = some sv0 ∧ sv.real E' = sv0.real E) ∧ K x st'
def yieldOf : Option SV → Option Nat
 | some (.o (.v (.func (.yield l) first _))) => match first.toList with
   | [] => some l
   | _ => none
 | _ => none

def rowOf (st : SS) (k : Nat) : Option (List Value) := match lk k st.me with
 | some (.sym cs _) => some cs
 | some (.own _ _ _ xs) => some xs
 | _ => none

def sopLoad (T : TT) (st : SS) (t : TypeId) (x : Operand) (K : SV → Prop) : Prop := match lk t T, ev st x with
 | some e, some (.o (.v (.pointer A))) => LoadVC st e.size (isAggD e.desc) A K
 | some e, some (.o (.p k off)) => match rowOf st k with
   | some cs => RowVC cs off e.size (isAggD e.desc) K
   | none => False
 | _, _ => False
def sopStore (T : TT) (st : SS) (t : TypeId) (x y : Operand) (K : SS → Prop) : Prop := match lk t T, ev st x, ev st y with
 | some e, some (.o (.p k off)), some sv => bif Nat.beq sv.cells.length e.size && sv.cells.all oneB then
   (match lk k st.me with
   | some (.box cs ty) => bif Nat.ble (off + e.size) cs.length then K { st with me := setL k (.box (putN off sv.cells cs) ty) st.me } else False
   | some (.sym cs ty) => match allV sv.cells with
     | some vs => PVC (off + e.size ≤ cs.length) (K { st with me := setL k (.sym (putN off vs cs) ty) st.me })
     | none => False
   | some (.own ty es n xs) => match allV sv.cells with
     | some vs => PVC (off + e.size ≤ xs.length ∧ 0 < e.size) (K { st with me := setL k (.own ty es n (putN off vs xs)) st.me })
     | none => False
   | none => False) else False
 | _, _, _ => False
def SS.fresh (st : SS) (d : Nat) (kk : Option Nat) (t es n : Nat) (xs : List Value) : SS := ({ st with me := (d, .own t es n xs) :: rmO kk st.me } : SS).put (some d) (.o (.w d))
def sopMake (T : TT) (st : SS) (d : Nat) (t : TypeId) (l c : Operand) (K : SS → Prop) : Prop := match lk t T, toI (ev st l), toI (ev st c) with
 | some e, some l, some c => match e.desc with
   | .slice el => match lk el T with
     | some ee => bif st.has d || !(Nat.beq ee.zero.cells.toList.length ee.size) then False else
       PVC (0 ≤ l ∧ l ≤ c ∧ (ee.bytes : Int) * c ≤ 281474976710656 ∧ c ≤ 9223372036854775807) (K (st.fresh d none el ee.size l.toNat (repl l.toNat ee.zero.cells.toList)))
     | none => False
   | _ => False
 | _, _, _ => False
structure SrcVC (st : SS) (A : Option Addr) (n : Nat) (K : List Value → Prop) : Prop where
 out : ∃ vs : List Value, vs.length = n ∧ (∀ v ∈ vs, v.oneCell' = true) ∧ (∀ w, (∀ R ∈ st.re, R.φ w) → (A = none ∧ n = 0) ∨ ∃ a, A = some a ∧ ∀ j v, vs[j]? = some v → w.cell? (a.add j) = some v) ∧ K vs
def boxV (st : SS) (k : Nat) : Option (List Value) := match lk k st.me with
 | some (.box cs _) => allV cs
 | some (.sym cs _) => some cs
 | _ => none
def oneV : Value → Bool
 | .agg _ => false
 | .tuple _ => false
 | _ => true
def srcOf (st : SS) (es : Nat) (y : Operand) (fin : Nat → List Value → Prop) : Prop := match ev st y with
 | some (.o (.s k2 off m _)) => match boxV st k2 with
   | some cs => match takeN (m * es) (dropN off cs) with
     | some vs => bif vs.all oneV then fin m vs else False
     | none => False
   | none => False
 | some (.o (.v (.slice A m _))) => SrcVC st A (m * es) (fun vs => fin m vs)
 | some (.o (.w k2)) => match lk k2 st.me with
   | some (.own _ es2 m vs) => bif Nat.beq es2 es then PVC (∀ v ∈ vs, v.oneCell' = true) (fin m vs) else False
   | _ => False
 | _ => False
def sopApp (T : TT) (st : SS) (d : Nat) (t : TypeId) (x y : Operand) (K : SS → Prop) : Prop := match lk t T with
 | some e => match e.desc with
   | .slice el => match lk el T with
     | some ee =>
       let go (kk : Option Nat) (n : Nat) (xs : List Value) : Prop := srcOf st ee.size y (fun m vs => PVC (n + m ≤ 9223372036854775807 ∧ (n + m) * ee.bytes ≤ 140737488355328) (K (st.fresh d kk el ee.size (n + m) (app xs vs))))
       bif st.has d || !(Nat.beq ee.zero.cells.toList.length ee.size) || Nat.beq ee.size 0 then False else
       (match ev st x with
       | some (.o (.w k)) => match lk k st.me with
         | some (.own t' es n xs) => bif Nat.beq t' el && Nat.beq es ee.size then go (some k) n xs else False
         | _ => False
       | some (.o (.v (.slice none 0 0))) => go none 0 []
       | some (.o (.v (.slice (some b) n c))) => SrcVC st (some b) (n * ee.size) (fun xs => srcOf st ee.size y (fun m vs => PVC (n ≤ c ∧ c < n + m ∧ n + m ≤ 9223372036854775807 ∧ (n + m) * ee.bytes ≤ 140737488355328) (K (st.fresh d none el ee.size (n + m) (app xs vs)))))
       | _ => False)
     | none => False
   | _ => False
 | none => False
structure HookVC (C : Cx) (st : SS) (p : SS → Prop) : Prop where
 out : ∀ E a w, SRE C E st a w → ∃ E' t, p t ∧ SRE C E' t a w
def srcNF (st : SS) (x y : Operand) : Bool := match ev st x with
 | some (.o (.s _ _ _ _)) => true
 | _ => match ev st y with
   | some (.o (.s k _ _ _)) => (boxV st k).isNone
   | _ => false
def optI (st : SS) (x : Option Operand) (d : Int) : Option Int := match x with
 | some x => toI (ev st x)
 | none => some d
def sopSlice (T : TT) (st : SS) (t : TypeId) (x : Operand) (lo hi mx : Option Operand) (K : SV → Prop) : Prop := match lk t T, ev st x with
 | some e, some (.o (.p k off)) => match e.desc, mx with
   | .array n el, none => match lk el T, optI st lo 0, optI st hi n with
     | some ee, some l, some h => bif boxed st k then PVC (0 ≤ l ∧ l ≤ h ∧ h ≤ n) (K (.o (.s k (bif Nat.beq n l.toNat then off else off + l.toNat * ee.size) (h.toNat - l.toNat) (n - l.toNat)))) else False
     | _, _, _ => False
   | _, _ => False
 | some e, some (.o (.v (.slice A n c))) => match e.desc, mx with
   | .slice el, none => match lk el T, optI st lo 0, optI st hi n with
     | some ee, some l, some h => PVC (0 ≤ l ∧ l ≤ h ∧ h ≤ c) (K (.o (.v (.slice (if c = l.toNat then A else A.map (·.add (l.toNat * ee.size))) (h.toNat - l.toNat) (c - l.toNat)))))
     | _, _, _ => False
   | .slice el, some mm => match lk el T, lo, hi with
     | some _, none, some hh => match toI (ev st hh), toI (ev st mm) with
       | some h, some m => PVC (0 ≤ h ∧ h ≤ m ∧ m ≤ c) (K (.o (.v (.slice A h.toNat m.toNat))))
       | _, _ => False
     | _, _, _ => False
   | _, _ => False
 | some e, some (.o (.s k off n c)) => match e.desc, mx with
   | .slice el, none => match lk el T, optI st lo 0, optI st hi n with
     | some ee, some l, some h => PVC (0 ≤ l ∧ l ≤ h ∧ h ≤ c ∧ l < c) (K (.o (.s k (off + l.toNat * ee.size) (h.toNat - l.toNat) (c - l.toNat))))
     | _, _, _ => False
   | _, _ => False
 | _, _ => False
def bytV (l : List UInt8) : List Value := l.map fun b => .int .u8 (b.toNat : Int)
structure StrVC (cs : List Value) (n : Nat) (K : SV → Prop) : Prop where
 out : ∃ l : List UInt8, l.length = n ∧ cs.take n = bytV l ∧ K (.o (.v (.string ⟨l.toArray⟩)))
def sopConv (T : TT) (st : SS) (s t : TypeId) (x : Operand) (K : SV → Prop) : Prop := match lk s T, lk t T with
 | some es, some e => match es.desc, e.desc with
   | .slice el, .string => match lk el T with
     | some ee => match ee.desc with
       | .int .u8 => match ev st x with
         | some (.o (.w k)) => match lk k st.me with
           | some (.own _ es n xs) => bif Nat.beq es 1 then StrVC xs n K else False
           | _ => False
         | some (.o (.s k off n _)) => match boxV st k with
           | some cs => StrVC (cs.drop off) n K
           | none => False
         | _ => False
       | _ => False
     | none => False
   | _, _ => False
 | _, _ => False
def sopClr (T : TT) (st : SS) (t : TypeId) (x : Operand) (K : SS → Prop) : Prop := match lk t T, ev st x with
 | some e, some (.o (.s k off n _)) => match e.desc with
   | .slice el => match lk el T with
     | some ee => match lk k st.me with
       | some (.sym cs ty) => PVC (0 < n ∧ ee.zero.cells.toList.length = ee.size ∧ off + n * ee.size ≤ cs.length ∧ ∀ v ∈ ee.zero.cells.toList, v.oneCell' = true) (K { st with me := setL k (.sym (putN off (repl n ee.zero.cells.toList) cs) ty) st.me })
       | _ => False
     | none => False
   | _ => False
 | _, _ => False
def sopCall (P : Program) (C : Cx) (st : SS) (f : Operand) (args : Array Operand) (K : SV → SS → Prop) : Prop := match evs st args.toList with
 | some l => match callee (ev st f) l with
   | some (g, l') => CallVC P C g l' st K
   | none => match yieldOf (ev st f) with
     | some k => YieldVC P C k l st K
     | none => False
 | none => False

structure OpVC (P : Program) (C : Cx) (o : Oper) (st : SS) (K : SS → Prop) : Prop where
 out : ∀ E a w, SRE C E st a w → ∃ st' w' E' v, K st' ∧ SRE C E' st' (a.put o.dst v) w' ∧ ((execOp a.eval o).run P w = .ok (.value v) w' ∨ (o.dst = none ∧ (execOp a.eval o).run P w = .ok .skip w'))
def sopX (P : Program) (T : TT) (C : Cx) (o : Oper) (st : SS) (K : SS → Prop) : Prop :=
 match o.op with
 | .makeMap _ _ => OpVC P C o st K
 | .mapUpdate _ _ _ _ => OpVC P C o st K
 | .lookup _ _ _ _ => OpVC P C o st K
 | .load t x => sopLoad T st t x (fun v => K (st.put o.dst v))
 | .store t x y => match o.dst with
   | none => sopStore T st t x y K
   | some _ => False
 | .makeSlice t l c => match o.dst with
   | some d => sopMake T st d t l c K
   | none => False
 | .slice t x lo hi mx => sopSlice T st t x lo hi mx (fun v => K (st.put o.dst v))
 | .convert s t x => sopConv T st s t x (fun v => K (st.put o.dst v))
 | .call ⟨.builtin .append, args, ts⟩ => match o.dst, args.toList, ts.toList with
   | some d, [x, y], [t, t'] => bif Nat.beq t t' then (bif srcNF st x y then HookVC C st (fun s => sopApp T s d t x y K) else sopApp T st d t x y K) else False
   | _, _, _ => False
 | .call ⟨.value f, args, _⟩ => sopCall P C st f args (fun x st' => K (st'.put o.dst x))
 | .call ⟨.builtin .clear, args, ts⟩ => match args.toList, ts.toList with
   | [x], [t] => sopClr T st t x (fun st' => K (st'.put o.dst (.o (.v (.tuple #[])))))
   | _, _ => False
 | _ => False

def sop (P : Program) (T : TT) (C : Cx) (o : Oper) (st : SS) (K : SS → Prop) : Prop :=
 bif dstOk C.N o.dst then
 (match dop T st (o.dst.getD 0) o.op with
 | some (c, none, x) => andc c (K (st.put o.dst x))
 | some (c, some m, x) => (match o.dst with
   | some d => andc c (K ((st.mem d m).put (some d) x))
   | none => False)
 | none => sopX P T C o st K) else False

section
variable {P : Program} {T : TT} {C : Cx} {E : Env} {st : SS} {a : Act} {w : World} {ro : Option Nat} {n : Nat}

theorem wpIn_of_run {o : Oper} {next : Act → World → Prop} {Q : Exit → Act → World → Prop} (hd : ∀ c, o.op ≠ .defer c) (h : o.uponIn (FW ro) n P a next Q ((execOp a.eval o).run P w)) : o.wpIn (FW ro) n P a w next Q := by
 refine ⟨fun _ _ => trivial, ?_⟩
 rw [show (FW ro).round = ro from rfl, Oper.semAt_eq ro a.eval o hd]
 exact h

theorem evs_ok (h : SRE C E st a w) : ∀ {l : List Operand} {vs : List SV}, evs st l = some vs → l.map a.eval = vs.map (SV.real E)
 | [], vs, hl => by simp only [evs, Option.some.injEq] at hl; subst hl; rfl
 | x :: r, vs, hl => by
   simp only [evs] at hl
   split at hl
   · rename_i sv l hx hr; cases hl; simp [ev_ok h hx, evs_ok h hr]
   · cases hl

theorem vsv_real (E : Env) : ∀ l : List Value, (vsv l).map (SV.real E) = l
 | [] => rfl
 | x :: r => by simp [vsv, SV.real, AV.real, vsv_real E r]
theorem csv_real (E : Env) : ∀ l : List CP, (csv l).map (SV.real E) = l.map (CP.real E)
 | [] => rfl
 | .e x :: r => by simp [csv, SV.real, AV.real, CP.real, csv_real E r]
 | .l k :: r => by simp [csv, SV.real, AV.real, CP.real, csv_real E r]

theorem yield_ok (h : SRE C E st a w) {f : Operand} {args : Array Operand} {ts : Array TypeId} {l : List SV} {k : Nat} (hl : evs st args.toList = some l) (hc : yieldOf (ev st f) = some k) (o : Oper) (ho : o.op = .call ⟨.value f, args, ts⟩) :
   (execOp a.eval o).run P w = (Instr.yield k (l.map (SV.real E)).toArray).run P w := by
 obtain ⟨dst, op, type, pos, after, guard⟩ := o
 simp only at ho
 subst ho
 have hargs : args.map a.eval = (l.map (SV.real E)).toArray := by
   rw [← evs_ok h hl]; apply Array.ext'; simp
 show (do let d ← resolve a.eval ⟨.value f, args, ts⟩ type; invoke d.target d.args : Sem Next).run P w = _
 rw [Sem.run_bind]
 unfold yieldOf at hc
 split at hc
 · rename_i l' first caps hf
   split at hc
   · rename_i hfirst
     cases hc
     have hev := ev_ok h hf
     simp only [SV.real, AV.real] at hev
     have hr : (resolve a.eval ⟨.value f, args, ts⟩ type).run P w = .ok { target := .fn (.yield k) caps, args := first ++ args.map a.eval } w := by
       unfold resolve
       simp only [hev]
       rfl
     rw [hr]
     simp only [Result.andThen, invoke]
     have : first = #[] := Array.ext' (by simpa using hfirst)
     rw [this, hargs]; simp
   · cases hc
 · cases hc
theorem callee_ok (h : SRE C E st a w) {f : Operand} {args : Array Operand} {ts : Array TypeId} {l l' : List SV} {g : FuncId} (hl : evs st args.toList = some l) (hc : callee (ev st f) l = some (g, l')) (hE : Enters P g) (o : Oper) (ho : o.op = .call ⟨.value f, args, ts⟩) :
   (execOp a.eval o).run P w = .ok (.enter g (l'.map (SV.real E)).toArray) w := by
 obtain ⟨dst, op, type, pos, after, guard⟩ := o
 simp only at ho
 subst ho
 have hargs : args.map a.eval = (l.map (SV.real E)).toArray := by
   rw [← evs_ok h hl]; apply Array.ext'; simp
 show (do let d ← resolve a.eval ⟨.value f, args, ts⟩ type; invoke d.target d.args : Sem Next).run P w = _
 rw [Sem.run_bind]
 unfold callee at hc
 split at hc
 · rename_i g' first caps hf
   cases hc
   have hev := ev_ok h hf
   simp only [SV.real, AV.real] at hev
   have hr : (resolve a.eval ⟨.value f, args, ts⟩ type).run P w = .ok { target := .fn (.func g) caps, args := first ++ args.map a.eval } w := by
     unfold resolve
     simp only [hev]
     rfl
   rw [hr]
   simp only [Result.andThen, invoke]
   rw [hE]
   congr 2
   rw [hargs]
   apply Array.ext'
   simp [app_eq, vsv_real]
 · rename_i g' caps hf
   cases hc
   have hev := ev_ok h hf
   simp only [SV.real, AV.real] at hev
   have hr : (resolve a.eval ⟨.value f, args, ts⟩ type).run P w = .ok { target := .fn (.func g) (caps.map (CP.real E)).toArray, args := #[] ++ args.map a.eval } w := by
     unfold resolve
     simp only [hev]
     rfl
   rw [hr]
   simp only [Result.andThen, invoke]
   rw [hE]
   congr 2
   rw [hargs]
   apply Array.ext'
   simp [app_eq, csv_real]
 · cases hc

theorem mkV_real (E : Env) {agg : Bool} {vs : List Value} (h : agg = false → vs.length = 1) : (mkV agg vs).real E = if agg then .agg vs.toArray else vs.getD 0 undef := by
 cases agg with
 | true => rfl
 | false =>
   have := h rfl
   rcases vs with _ | ⟨y, _ | ⟨z, r⟩⟩
   · simp at this
   · rfl
   · simp at this

theorem MemOk.row (h : MemOk C E st.me st.re w) {k : Nat} {cs : List Value} (hr : rowOf st k = some cs) (hne : 0 < cs.length) : ∃ b, E.β k = some b ∧ ∀ j x, cs[j]? = some x → w.cell? ⟨b, j, none⟩ = some x := by
 unfold rowOf at hr
 split at hr
 · rename_i cs' t hm
   cases hr
   obtain ⟨b, hb, hcells⟩ := h.ent _ _ hm
   exact ⟨b, hb, fun j x hj => by rw [cell_of hcells]; simpa using hj⟩
 · rename_i t es n xs hm
   cases hr
   obtain ⟨hl, hn, ⟨_, _, h0⟩ | ⟨b, cur, hb, hcells, _, _, _, htake⟩⟩ := own_cases (h.ent _ _ hm)
   · rw [hl, h0] at hne; simp at hne
   · refine ⟨b, hb, fun j x hj => ?_⟩
     rw [cell_of hcells]
     rw [← htake, List.getElem?_take] at hj
     split at hj
     · simpa using hj
     · cases hj
 · cases hr

theorem sopLoad_sound (hT : TTgood P T) (h : SRE C E st a w) {o : Oper} {t : TypeId} {x : Operand} (ho : o.op = .load t x) {K : SV → Prop} (hs : sopLoad T st t x K) :
   ∃ v : SV, K v ∧ (execOp a.eval o).run P w = .ok (.value (v.real E)) w := by
 have key : ∀ {e : TyE} {b off : Nat} {vs : List Value}, lk t T = some e → a.eval x = .pointer (some ⟨b, off, none⟩) → vs.length = e.size → (isAggD e.desc = false → e.size = 1) → (∀ j v, vs[j]? = some v → w.cell? ⟨b, off + j, none⟩ = some v) →
     (execOp a.eval o).run P w = .ok (.value ((mkV (isAggD e.desc) vs).real E)) w := by
   intro e b off vs he hev hlen h1 hc
   have hrun : (Instr.loadAt t (a.eval x)).run P w = .ok ((mkV (isAggD e.desc) vs).real E) w := by
     rw [hev, mkV_real E (fun hh => by rw [hlen]; exact h1 hh)]
     unfold Instr.loadAt Instr.sureAddr
     rw [Sem.run_bind]
     simp only [Sem.run_pure, Result.andThen]
     rw [run_loadVar (hT _ _ he).1 hlen hc]
     by_cases hg : isAggD e.desc = true
     · simp [hg]
     · rw [if_neg hg, if_neg hg]
       have := h1 (by simpa using hg)
       rcases vs with _ | ⟨y, _ | ⟨z, r⟩⟩
       · simp at hlen; omega
       · rfl
       · simp at hlen; omega
   obtain ⟨dst, op, type, pos, after, guard⟩ := o
   simp only at ho
   subst ho
   exact run_do rfl hrun
 unfold sopLoad at hs
 split at hs
 · rename_i e A he hx
   obtain ⟨vs, hlen, h1, hw, hk⟩ := hs.out
   obtain ⟨b, off, rfl, hc⟩ := hw w (fun R hR => (h.mem.res R hR).2.1)
   exact ⟨_, hk, key he (ev_ok h hx) hlen h1 hc⟩
 · rename_i e k off he hx
   split at hs
   · rename_i cs hr
     obtain ⟨hpos, l, hlen, h1, hcs, hk⟩ := hs
     have hne : 0 < cs.length := by
       have h0 : l[0]? = some (l[0]'(by omega)) := List.getElem?_eq_getElem (by omega)
       have := (List.getElem?_eq_some_iff.1 (hcs 0 _ h0)).1
       omega
     obtain ⟨b, hb, hcells⟩ := h.mem.row hr hne
     exact ⟨_, hk, key he (by rw [ev_ok h hx]; simp [SV.real, AV.real, hb]) hlen h1 (fun j v hj => hcells _ _ (hcs j v hj))⟩
   · exact hs.elim
 · exact hs.elim

theorem allV_cells {E : Env} {cs : List AV} {vs : List Value} (h : allV cs = some vs) : cs.map (AV.real E) = vs ∧ cs.length = vs.length := by
 have := allV_real E h
 exact ⟨this, by rw [← this, List.length_map]⟩

theorem sopStore_sound (hT : TTgood P T) (h : SRE C E st a w) {o : Oper} {t : TypeId} {x y : Operand} (ho : o.op = .store t x y) {K : SS → Prop} (hs : sopStore T st t x y K) :
   ∃ st' w', K st' ∧ SRE C E st' a w' ∧ (execOp a.eval o).run P w = .ok .skip w' := by
 unfold sopStore at hs
 split at hs
 · rename_i e k off sv he hx hy
   by_cases hb : (Nat.beq sv.cells.length e.size && sv.cells.all oneB) = true
   · rw [hb] at hs
     simp only [cond_true] at hs
     simp only [Bool.and_eq_true, List.all_eq_true] at hb
     have hlen := Nat.eq_of_beq_eq_true hb.1
     have hgo : ∀ {b : Nat} {old : List Value} {ty : TypeId}, E.β k = some b → w.heap[b]? = some (.cells old.toArray ty (0, 0)) → off + e.size ≤ old.length →
         (execOp a.eval o).run P w = .ok .skip (w.setRow b (putN off (sv.cells.map (AV.real E)) old).toArray) := by
       intro b old ty hb' hheap hfit
       have hev : a.eval x = .pointer (some ⟨b, off, none⟩) := by rw [ev_ok h hx]; simp [SV.real, AV.real, hb']
       have hcell := SV.cells_real E sv
       have hsz : (sv.real E).cells.size = e.size := by rw [← Array.length_toList, hcell, List.length_map, hlen]
       have hst := run_storeCells_at (P := P) b off ty (sv.cells.map (AV.real E)) 0 _ w hheap (by simp [hlen]; exact hfit) (fun v hv => by
         obtain ⟨z, hz, rfl⟩ := List.mem_map.1 hv
         exact oneB_real (hb.2 z hz) E)
       have hrow : old.toArray.toList.take (off + 0) ++ sv.cells.map (AV.real E) ++ old.toArray.toList.drop (off + 0 + (sv.cells.map (AV.real E)).length) = putN off (sv.cells.map (AV.real E)) old := by
         rw [putN_eq _ _ _ (by rw [List.length_map]; omega)]
         simp
       rw [hrow] at hst
       have hrun : (Instr.storeAt t (.pointer (some ⟨b, off, none⟩)) (sv.real E)).run P w = .ok () (w.setRow b (putN off (sv.cells.map (AV.real E)) old).toArray) := by
         unfold Instr.storeAt Instr.sureAddr
         rw [Sem.run_bind]
         simp only [Sem.run_pure, Result.andThen]
         unfold storeVar
         rw [Sem.run_bind, (hT _ _ he).1.run_size]
         simp only [Result.andThen]
         rw [if_neg (by omega), hcell]
         exact hst
       obtain ⟨dst, op, type, pos, after, guard⟩ := o
       simp only at ho
       subst ho
       show (do Instr.storeAt t (a.eval x) (a.eval y); pure .skip : Sem Next).run P w = _
       rw [Sem.run_bind, hev, ev_ok h hy, hrun]
       rfl
     have hputlen : ∀ {α : Type} (xs l : List α), off + xs.length ≤ l.length → (putN off xs l).length = l.length := fun xs l hl => by
       rw [putN_eq _ _ _ hl]; simp; omega
     split at hs
     · rename_i cs ty hm
       by_cases hf : Nat.ble (off + e.size) cs.length = true
       · rw [hf] at hs
         have hf' := Nat.le_of_ble_eq_true hf
         obtain ⟨b, hb', hheap⟩ := h.mem.ent _ _ hm
         refine ⟨_, _, hs, h.store hm hb' hheap (cur := (putN off (sv.cells.map (AV.real E)) (cs.map (AV.real E))).toArray) (fun hn => ⟨b, hb', ?_⟩), hgo hb' hheap (by simpa using hf')⟩
         rw [hn, putN_eq _ _ _ (by rw [List.length_map, List.length_map]; omega), putN_eq _ _ _ (by omega)]
         simp [List.map_take, List.map_drop]
       · rw [Bool.not_eq_true] at hf; rw [hf] at hs; exact hs.elim
     · rename_i cs ty hm
       split at hs
       · rename_i vs hvs
         obtain ⟨hv1, hv2⟩ := allV_cells (E := E) hvs
         obtain ⟨b, hb', hheap⟩ := h.mem.ent _ _ hm
         have := hgo hb' hheap hs.c
         rw [hv1] at this
         exact ⟨_, _, hs.k, h.store hm hb' hheap (fun hn => ⟨b, hb', hn⟩), this⟩
       · exact hs.elim
     · rename_i ty es n xs hm
       split at hs
       · rename_i vs hvs
         obtain ⟨hv1, hv2⟩ := allV_cells (E := E) hvs
         obtain ⟨hfit, hpos⟩ := hs.c
         have hent := h.mem.ent _ _ hm
         obtain ⟨hl, hn, ⟨_, _, h0⟩ | ⟨b, cur, hb', hheap, h4, h5, h6, htake⟩⟩ := own_cases hent
         · rw [hl, h0] at hfit; omega
         · have hcl : xs.length ≤ cur.toList.length := by rw [← htake]; simp; omega
           have := hgo (old := cur.toList) hb' hheap (by omega)
           rw [hv1] at this
           refine ⟨_, _, hs.k, h.store hm hb' hheap (cur := (putN off vs cur.toList).toArray) (fun hnew => ?_), this⟩
           have hω : (AV.w k).real E = .slice (some ⟨b, 0, none⟩) n (E.ω k).2 := by simp [AV.real, hb', hn]
           show World.ownsRow _ 0 ty es ((AV.w k).real E) n _
           rw [hω]
           have hlx : off + vs.length ≤ xs.length := by omega
           refine ⟨by rw [hputlen _ _ hlx]; exact hl, .inr ⟨b, (E.ω k).2, _, rfl, Nat.zero_le _, hnew, h4, h5, ?_, ?_⟩⟩
           · rw [List.size_toArray, hputlen _ _ (by omega)]; simpa using h6
           · show (putN off vs cur.toList).take (n * es) = _
             rw [putN_eq _ _ _ (show off + vs.length ≤ cur.toList.length by omega), putN_eq _ _ _ hlx, ← htake]
             have hle : off + vs.length ≤ n * es := by omega
             rw [List.append_assoc, List.take_append, List.take_take, List.length_take, List.take_append]
             have h7 : min off cur.toList.length = off := by omega
             rw [h7, List.append_assoc]
             congr 1
             · rw [List.take_take]; congr 1; omega
             · congr 1
               · rw [List.take_of_length_le (by omega)]
               · rw [List.drop_take]; congr 1; omega
       · exact hs.elim
     · exact hs.elim
   · rw [Bool.not_eq_true] at hb; rw [hb] at hs; exact hs.elim
 · exact hs.elim

theorem repl_mem {α : Type} {v : α} {l : List α} : ∀ {n : Nat}, v ∈ repl n l → v ∈ l
 | 0, h => by cases h
 | n + 1, h => (List.mem_append.1 h).elim (fun h => h) repl_mem
theorem zeroCells_repl (z : Array Value) (n : Nat) : (Builtin.zeroCells z n).toList = repl n z.toList := by
 apply List.ext_getElem?
 intro j
 by_cases hj : j < n * z.size
 · rw [repl_get n z.toList j (by simpa using hj)]
   simp only [Builtin.zeroCells, Array.toList_map, Array.toList_range, List.getElem?_map, List.getElem?_range hj, Option.map_some]
   have hz : 0 < z.size := by rcases Nat.eq_zero_or_pos z.size with h | h; rw [h] at hj; omega; exact h
   have hlt : j % z.size < z.size := Nat.mod_lt _ hz
   rw [getElem!_pos z _ hlt]
   simp [hlt]
 · rw [List.getElem?_eq_none (by simp [Builtin.zeroCells]; omega), List.getElem?_eq_none (by rw [repl_length]; simpa using Nat.not_lt.1 hj)]
theorem madeCells_take (z : Array Value) (n m : Nat) (hnm : n ≤ m) : (madeCells z (m * z.size)).toList.take (n * z.size) = repl n z.toList := by
 apply List.ext_getElem?
 intro j
 rw [List.getElem?_take]
 have hle : n * z.size ≤ m * z.size := Nat.mul_le_mul_right _ hnm
 split
 · rename_i hj
   rw [repl_get n z.toList j (by simpa using hj)]
   simp only [madeCells, Array.toList_map, Array.toList_range, List.getElem?_map, List.getElem?_range (show j < m * z.size by omega), Option.map_some]
   have hz : 0 < z.size := by rcases Nat.eq_zero_or_pos z.size with h | h; rw [h] at hj; omega; exact h
   have hlt : j % z.size < z.size := Nat.mod_lt _ hz
   rw [getElem!_pos z _ hlt]
   simp [hlt]
 · rename_i hj
   symm
   rw [List.getElem?_eq_none]
   rw [repl_length]; simpa using hj

theorem TyOk.parts {t : TypeId} {e : TyE} (h : TyOk P t e) : ∃ i : TypeInfo, P.info? t = some i ∧ i.size = e.size ∧ i.bytes = e.bytes ∧ i.zero = some e.zero := by
 have h1 := h.info
 cases hi : P.info? t with
 | none => rw [hi] at h1; cases h1
 | some i =>
   rw [hi] at h1
   simp only [Option.map_some, Option.some.injEq, Prod.mk.injEq] at h1
   exact ⟨i, rfl, h1.1, h1.2.1, h1.2.2⟩

theorem sopMake_sound (hT : TTgood P T) (h : SRE C E st a w) {o : Oper} {t : TypeId} {l c : Operand} {d : Nat} (ho : o.op = .makeSlice t l c) (hd : dstOk C.N (some d) = true) {K : SS → Prop} (hs : sopMake T st d t l c K) :
   ∃ st' w' E' v, K st' ∧ SRE C E' st' (a.put (some d) v) w' ∧ (execOp a.eval o).run P w = .ok (.value v) w' := by
 unfold sopMake at hs
 split at hs
 · rename_i e l' c' he hl hc
   obtain ⟨kl, hl⟩ := toI_ok h hl
   obtain ⟨kc, hc⟩ := toI_ok h hc
   split at hs
   · rename_i el hdesc
     split at hs
     · rename_i ee hee
       cases hf : (st.has d || !(Nat.beq ee.zero.cells.toList.length ee.size)) with
       | true => rw [hf] at hs; exact hs.elim
       | false =>
         rw [hf] at hs
         simp only [Bool.or_eq_false_iff, Bool.not_eq_false'] at hf
         obtain ⟨hf, hz⟩ := hf
         have hz := Nat.eq_of_beq_eq_true hz
         obtain ⟨⟨h0, h1, h2, h3⟩, hk⟩ := hs
         obtain ⟨i, hi, hi1, hi2, hi3⟩ := (hT _ _ hee).1.parts
         have hund := (hT _ _ he).1.und
         rw [hdesc] at hund
         have hrun := run_make (P := P) w t el i ee.zero hund hi hi3 kl kc l' c' h0 h1 (by rw [hi2]; exact h2) h3
         have hzs : ee.zero.cells.size = ee.size := by simpa using hz
         rw [hi1, ← hzs] at hrun
         have hown : (w.alloc (.cells (madeCells ee.zero.cells (c'.toNat * ee.zero.cells.size)) el)).ownsRow 0 el ee.size (.slice (some ⟨w.heap.size, 0, none⟩) l'.toNat c'.toNat) l'.toNat (repl l'.toNat ee.zero.cells.toList) := by
           refine ⟨by rw [repl_length]; simp [hzs], .inr ⟨w.heap.size, c'.toNat, _, rfl, Nat.zero_le _, heapnew _ _, by omega, by simp [maxLen]; omega, by rw [size_madeCells, hzs], ?_⟩⟩
           rw [← hzs]
           exact madeCells_take _ _ _ (by omega)
         refine ⟨_, _, _, _, hk, h.own hd hf (kk := none) (by exact Nat.le_refl _) (World.grownBy_alloc w _ none) (by intro b hb; cases hb) hown (fun b hb => .inl (by cases hb; exact Nat.le_refl _)), ?_⟩
         obtain ⟨dst, op, type, pos, after, guard⟩ := o
         simp only at ho
         subst ho
         refine run_do rfl ?_
         rw [hl, hc]
         exact hrun
     · exact hs.elim
   · exact hs.elim
 · exact hs.elim

theorem _root_.Go.World.grownBy.refl_ (w : World) (row : Option Nat) : w.grownBy w row := ⟨rfl, rfl, rfl, Nat.le_refl _, fun _ _ _ => rfl⟩
theorem run_append_owned_none' (base : Nat) (t ty e : TypeId) (i : TypeInfo) (size : Nat) (ht : P.underlying t = some (.slice e)) (hi : P.info? e = some i)
   (v : Value) (n : Nat) (xs : List Value) (hown : w.ownsRow base e size v n xs) (c : Nat) :
   (Builtin.append_ #[t, t] ty #[v, .slice none 0 c]).run P w = .ok v w := by
 rcases hown.2 with ⟨rfl, rfl⟩ | ⟨g, cap, cur, rfl, _, _, hnc, _⟩
 · simp [Builtin.append_, run_underlying ht, sizeOf, typeInfo, hi, Builtin.lenOf, Builtin.firstCells]
 · simp [Builtin.append_, run_underlying ht, sizeOf, typeInfo, hi, Builtin.lenOf, Builtin.firstCells, hnc, storeCells]

theorem own_cell {w : World} {g t j : Nat} {cur : Array Value} {u : Value} (h : w.heap[g]? = some (.cells cur t (0, 0))) (hj : cur[j]? = some u) : w.cell? ⟨g, j, none⟩ = some u := by
 rw [cell_of h]; exact hj
theorem srcOf_inv (h : SRE C E st a w) {es : Nat} (hpos : 0 < es) {y : Operand} {fin : Nat → List Value → Prop} (hs : srcOf st es y fin) :
   (∃ c, a.eval y = .slice none 0 c ∧ fin 0 []) ∨ ∃ m vs sa c, a.eval y = .slice (some sa) m c ∧ vs.length = m * es ∧ (∀ j u, vs[j]? = some u → w.cell? (sa.add j) = some u) ∧ (∀ u ∈ vs, u.oneCell' = true) ∧ fin m vs := by
 unfold srcOf at hs
 split at hs
 · rename_i k2 off m c hy
   split at hs
   · rename_i cs hcs
     split at hs
     · rename_i vs hvs
       cases hone : vs.all oneV with
       | false => rw [hone] at hs; exact hs.elim
       | true =>
         rw [hone] at hs
         obtain ⟨ht1, ht2⟩ := takeN_eq hvs
         rw [dropN_eq] at ht1
         have hblock : ∃ b ty, E.β k2 = some b ∧ w.heap[b]? = some (.cells cs.toArray ty (0, 0)) := by
           unfold boxV at hcs
           split at hcs
           · rename_i cs' ty hm
             obtain ⟨b, hb, hcells⟩ := h.mem.ent _ _ hm
             rw [allV_real E hcs] at hcells
             exact ⟨b, ty, hb, hcells⟩
           · rename_i cs' ty hm
             cases hcs
             obtain ⟨b, hb, hcells⟩ := h.mem.ent _ _ hm
             exact ⟨b, ty, hb, hcells⟩
           · cases hcs
         obtain ⟨b, ty, hb, hcells⟩ := hblock
         refine .inr ⟨m, vs, ⟨b, off, none⟩, c, by rw [ev_ok h hy]; simp [SV.real, AV.real, hb], ht2, fun j u hj => ?_, fun u hu => ?_, hs⟩
         · rw [Addr.add_lit, cell_of hcells]
           rw [ht1, List.getElem?_take] at hj
           split at hj
           · simpa using hj
           · cases hj
         · have := List.all_eq_true.1 hone u hu
           cases u <;> first | rfl | (simp [oneV] at this)
     · exact hs.elim
   · exact hs.elim
 · rename_i A m c hy
   obtain ⟨vs, hlen, hone, hA, hk⟩ := hs.out
   rcases hA w (fun R hR => (h.mem.res R hR).2.1) with ⟨rfl, hm⟩ | ⟨sa, rfl, hcells⟩
   · have hm0 : m = 0 := by
       rcases Nat.eq_zero_or_pos m with h0 | h0
       · exact h0
       · have := Nat.mul_pos h0 hpos; omega
     subst hm0
     have hvs : vs = [] := List.length_eq_zero_iff.1 (by omega)
     subst hvs
     exact .inl ⟨c, ev_ok h hy, hk⟩
   · exact .inr ⟨m, vs, sa, c, ev_ok h hy, hlen, hcells, hone, hk⟩
 · rename_i k2 hy
   split at hs
   · rename_i t2 es2 m vs hm
     cases hb : Nat.beq es2 es with
     | false => rw [hb] at hs; exact hs.elim
     | true =>
       rw [hb] at hs
       have e1 := Nat.eq_of_beq_eq_true hb
       subst e1
       obtain ⟨hone, hk⟩ := hs
       have hent := h.mem.ent _ _ hm
       obtain ⟨hl, hv | ⟨g, cap, cur, hv, _, h3, h4, h5, h6, h7⟩⟩ := hent
       · obtain ⟨hv1, hm0⟩ := hv
         subst hm0
         have hvs : vs = [] := List.length_eq_zero_iff.1 (by omega)
         subst hvs
         exact .inl ⟨_, (ev_ok h hy).trans hv1, hk⟩
       · refine .inr ⟨m, vs, ⟨g, 0, none⟩, cap, (ev_ok h hy).trans hv, hl, fun j u hj => ?_, hone, hk⟩
         rw [← h7, List.getElem?_take] at hj
         split at hj
         · rw [Addr.add_lit, Nat.zero_add]
           exact own_cell h3 (by simpa using hj)
         · cases hj
   · exact hs.elim
 · exact hs.elim

theorem sopApp_sound (hT : TTgood P T) (h : SRE C E st a w) {o : Oper} {t : TypeId} {x y : Operand} {d : Nat} (ho : o.op = .call ⟨.builtin .append, #[x, y], #[t, t]⟩) (hd : dstOk C.N (some d) = true) {K : SS → Prop} (hs : sopApp T st d t x y K) :
   ∃ st' w' E' v, K st' ∧ SRE C E' st' (a.put (some d) v) w' ∧ (execOp a.eval o).run P w = .ok (.value v) w' := by
 unfold sopApp at hs
 split at hs
 · rename_i e he
   split at hs
   · rename_i el hdesc
     split at hs
     · rename_i ee hee
       cases hf : (st.has d || !(Nat.beq ee.zero.cells.toList.length ee.size) || Nat.beq ee.size 0) with
       | true => rw [hf] at hs; exact hs.elim
       | false =>
         rw [hf] at hs
         simp only [cond_false] at hs
         simp only [Bool.or_eq_false_iff, Bool.not_eq_false'] at hf
         obtain ⟨⟨hf, hz⟩, hpos⟩ := hf
         have hz := Nat.eq_of_beq_eq_true hz
         have hpos : 0 < ee.size := Nat.pos_of_ne_zero (beq_false.1 hpos)
         have hzs : ee.zero.cells.size = ee.size := by simpa using hz
         obtain ⟨i, hi, hi1, hi2, hi3⟩ := (hT _ _ hee).1.parts
         have hund := (hT _ _ he).1.und
         rw [hdesc] at hund
         have hexec : ∀ {v : Value} {w' : World} {p q : Value}, a.eval x = p → a.eval y = q → (Builtin.append_ #[t, t] o.type #[p, q]).run P w = .ok v w' → (execOp a.eval o).run P w = .ok (.value v) w' := by
           intro v w' p q hp hq hv
           obtain ⟨dst, op, type, pos, after, guard⟩ := o
           simp only at ho
           subst ho
           subst hp hq
           show (do let d ← resolve a.eval ⟨.builtin .append, #[x, y], #[t, t]⟩ type; invoke d.target d.args : Sem Next).run P w = _
           simp only [resolve, pure_bind, invoke]
           have hsb : builtin .append #[t, t] type (#[x, y].map fun | .const _ => true | _ => false) (#[x, y].map a.eval) = (do pure (.value (← Builtin.append_ #[t, t] type #[a.eval x, a.eval y])) : Sem Next) := by
             show (do pure (.value (← Builtin.append_ #[t, t] type (#[x, y].map a.eval))) : Sem Next) = _
             simp
           exact (congrArg (fun z : Sem Next => z.run P w) hsb).trans (by rw [Sem.run_bind, hv]; rfl)
         have key : ∀ (kk : Option Nat) (n : Nat) (xs : List Value) (v : Value), a.eval x = v → w.ownsRow 0 el ee.size v n xs → (∀ b, v.ownBlock = some b → ∃ k m, kk = some k ∧ lk k st.me = some m ∧ E.β k = some b ∧ IsC w b) →
             srcOf st ee.size y (fun m vs => PVC (n + m ≤ 9223372036854775807 ∧ (n + m) * ee.bytes ≤ 140737488355328) (K (st.fresh d kk el ee.size (n + m) (app xs vs)))) → ∃ st' w' E' v, K st' ∧ SRE C E' st' (a.put (some d) v) w' ∧ (execOp a.eval o).run P w = .ok (.value v) w' := by
           intro kk n xs v hxv hown hblk hsrc
           rcases srcOf_inv h hpos hsrc with ⟨c, hy, hk⟩ | ⟨m, vs, sa, c, hy, hlen, hcells, hone, hp⟩
           · have hrun := run_append_owned_none' (P := P) (w := w) 0 t o.type el i ee.size hund hi v n xs hown c
             refine ⟨_, w, sliceEnv E d v, v, hk.k, ?_, hexec hxv hy hrun⟩
             rw [app_eq, List.append_nil]
             exact h.own hd hf (Nat.le_refl _) (World.grownBy.refl_ w v.ownBlock) hblk hown (fun b hb => .inr hb)
           · have hmax := hp.c.1
             obtain ⟨v', w', hrun, hown', hg, _, hwhere⟩ := run_append_own_at (P := P) w 0 t o.type el i ee.zero ee.size ee.bytes hund hi hi3 hi1 hi2 hzs hpos v n xs hown sa m c vs hlen hcells hone
               (by simp [maxLen]; omega) hp.c.2 (Nat.zero_le _)
             refine ⟨_, w', sliceEnv E d v', v', hp.k, ?_, hexec hxv hy hrun⟩
             rw [app_eq]
             refine h.own hd hf (run_drawn _ hrun) hg (fun b hb => hblk b hb) hown' (fun b hb => ?_)
             rcases hwhere with hw | hw
             · exact .inr (hw ▸ hb)
             · rw [hw] at hb; cases hb; exact .inl (Nat.le_refl _)
         split at hs
         · rename_i k hx
           split at hs
           · rename_i t' es n xs hm
             cases hb : (Nat.beq t' el && Nat.beq es ee.size) with
             | false => rw [hb] at hs; exact hs.elim
             | true =>
               rw [hb] at hs
               simp only [Bool.and_eq_true] at hb
               have e1 := Nat.eq_of_beq_eq_true hb.1
               have e2 := Nat.eq_of_beq_eq_true hb.2
               subst e1 e2
               have hent := h.mem.ent _ _ hm
               refine key (some k) n xs _ (ev_ok h hx) hent (fun b hb => ?_) hs
               have hbk : E.β k = some b := by
                 simp only [SV.real, AV.real] at hb
                 cases hβ : E.β k with
                 | none => rw [hβ] at hb; cases hb
                 | some c => rw [hβ] at hb; exact hb
               refine ⟨k, _, rfl, hm, hbk, ?_⟩
               obtain ⟨_, _, ⟨h1, _⟩ | ⟨b', cur, h1, h2, _⟩⟩ := own_cases hent
               · rw [h1] at hbk; cases hbk
               · rw [hbk] at h1; cases h1; exact ⟨_, h2, rfl⟩
           · exact hs.elim
         · rename_i hx
           exact key none 0 [] _ (ev_ok h hx) (World.ownsRow_nil _ _ _ _) (fun b hb => by cases hb) hs
         · rename_i b0 n cap hx
           obtain ⟨xs, hlx, _, hA, hsrc⟩ := hs.out
           rcases hA w (fun R hR => (h.mem.res R hR).2.1) with ⟨h1, _⟩ | ⟨ba, h1, hold⟩
           · cases h1
           cases h1
           rcases srcOf_inv h hpos hsrc with ⟨c, hy, hk⟩ | ⟨m, vs, sa, c, hy, hlen, hcells, hone, hp⟩
           · have := hk.c
             omega
           · obtain ⟨_, hc1, hc2, hc3⟩ := hp.c
             obtain ⟨v', w', hrun, hown', hg⟩ := run_append_arg_grows (P := P) w t o.type el i ee.zero ee.size ee.bytes hund hi hi3 hi1 hi2 hzs hpos b0 n cap xs hlx hold sa m c vs hlen hcells
               hc1 (by simp [maxLen]; omega) hc3
             refine ⟨_, w', sliceEnv E d v', v', hp.k, ?_, hexec (ev_ok h hx) hy hrun⟩
             rw [app_eq]
             have hown0 : w'.ownsRow 0 el ee.size v' (n + m) (xs ++ vs) := by
               obtain ⟨h1, h2 | ⟨g, cp, cur, rfl, _, h4⟩⟩ := hown'
               · exact ⟨h1, .inl h2⟩
               · exact ⟨h1, .inr ⟨g, cp, cur, rfl, Nat.zero_le _, h4⟩⟩
             refine h.own (kk := none) (row := none) hd hf (run_drawn _ hrun) hg (fun b hb => by cases hb) hown0 (fun b hb => ?_)
             obtain ⟨h1, ⟨rfl, _⟩ | ⟨g, cp, cur, rfl, h3, h4⟩⟩ := hown'
             · cases hb
             · cases hb; exact .inl h3
         · exact hs.elim
     · exact hs.elim
   · exact hs.elim
 · exact hs.elim

theorem optI_ok (h : SRE C E st a w) {x : Option Operand} {d i : Int} (hx : optI st x d = some i) : (x = none ∧ i = d) ∨ ∃ y k, x = some y ∧ a.eval y = .int k i := by
 cases x with
 | none => simp only [optI, Option.some.injEq] at hx; exact .inl ⟨rfl, hx.symm⟩
 | some y => obtain ⟨k, hk⟩ := toI_ok h hx; exact .inr ⟨y, k, rfl, hk⟩

theorem sopSlice_sound (hT : TTgood P T) (h : SRE C E st a w) {o : Oper} {t : TypeId} {x : Operand} {lo hi mx : Option Operand} (ho : o.op = .slice t x lo hi mx) {K : SV → Prop} (hs : sopSlice T st t x lo hi mx K) :
   ∃ v : SV, K v ∧ (execOp a.eval o).run P w = .ok (.value (v.real E)) w := by
 have hgo : ∀ {v : Value}, (Instr.sliceAt t (a.eval x) (lo.map a.eval) (hi.map a.eval) (mx.map a.eval)).run P w = .ok v w → (execOp a.eval o).run P w = .ok (.value v) w := by
   intro v hv
   obtain ⟨dst, op, type, pos, after, guard⟩ := o
   simp only at ho
   subst ho
   exact run_do rfl hv
 have hopt : ∀ {z : Option Operand} {d i : Int}, optI st z d = some i → (z.map a.eval = none ∧ i = d) ∨ ∃ k, z.map a.eval = some (.int k i) := by
   intro z d i hz
   rcases optI_ok h hz with ⟨rfl, rfl⟩ | ⟨y, k, rfl, hy⟩
   · exact .inl ⟨rfl, rfl⟩
   · exact .inr ⟨k, by simp [hy]⟩
 unfold sopSlice at hs
 split at hs
 · rename_i e k off he hx
   split at hs
   · rename_i n el hdesc
     split at hs
     · rename_i ee l h' hee hl hh
       cases hb : boxed st k with
       | false => rw [hb] at hs; exact hs.elim
       | true =>
         rw [hb] at hs
         obtain ⟨⟨h0, h1, h2⟩, hk⟩ := hs
         obtain ⟨b, hb⟩ := boxed_ok h hb
         refine ⟨_, hk, hgo ?_⟩
         have hev : a.eval x = .pointer (some ⟨b, off, none⟩) := by rw [ev_ok h hx]; simp [SV.real, AV.real, hb]
         have hu := (hT _ _ he).1.run_und (w := w)
         rw [hdesc] at hu
         rw [hev]
         unfold Instr.sliceAt
         rw [Sem.run_bind, hu]
         simp only [Result.andThen, Instr.sureAddr]
         rw [Sem.run_bind]
         simp only [Sem.run_pure, Result.andThen, Option.map_none]
         rw [Sem.run_bind, run_bounds false n n (hopt hl) (hopt hh) h0 h1 h2]
         simp only [Result.andThen]
         rw [Sem.run_bind, (hT _ _ hee).1.run_size]
         simp only [Result.andThen, Sem.run_pure, SV.real, AV.real, hb, Option.map_some]
         congr 2
         by_cases hn : n = l.toNat
         · rw [if_pos hn, hn]; simp
         · rw [if_neg hn, beq_false.2 hn]; simp [Addr.add_lit]
     · exact hs.elim
   · exact hs.elim
 · rename_i e A n c he hx
   split at hs
   · rename_i el hdesc
     split at hs
     · rename_i ee l h' hee hl hh
       obtain ⟨⟨h0, h1, h2⟩, hk⟩ := hs
       refine ⟨_, hk, hgo ?_⟩
       have hu := (hT _ _ he).1.run_und (w := w)
       rw [hdesc] at hu
       rw [ev_ok h hx]
       simp only [SV.real, AV.real]
       unfold Instr.sliceAt
       rw [Sem.run_bind, hu]
       simp only [Result.andThen]
       unfold Instr.slice
       rw [Sem.run_bind, hu]
       simp only [Result.andThen, Option.map_none]
       rw [Sem.run_bind, run_bounds true n c (hopt hl) (hopt hh) h0 h1 h2]
       simp only [Result.andThen]
       rw [Sem.run_bind, (hT _ _ hee).1.run_size]
       simp only [Result.andThen, Sem.run_pure]
     · exact hs.elim
   · rename_i el mm hdesc
     split at hs
     · rename_i ee hh hee
       split at hs
       · rename_i h' m hh' hm'
         obtain ⟨⟨h0, h1, h2⟩, hk⟩ := hs
         obtain ⟨k1, hev1⟩ := toI_ok h hh'
         obtain ⟨k2, hev2⟩ := toI_ok h hm'
         refine ⟨_, hk, hgo ?_⟩
         have hu := (hT _ _ he).1.run_und (w := w)
         rw [hdesc] at hu
         rw [ev_ok h hx]
         simp only [SV.real, AV.real]
         unfold Instr.sliceAt
         rw [Sem.run_bind, hu]
         simp only [Result.andThen]
         unfold Instr.slice
         rw [Sem.run_bind, hu]
         simp only [Result.andThen, Option.map_none, Option.map_some, hev1, hev2]
         rw [Sem.run_bind, run_bounds3 n c h0 h1 h2]
         simp only [Result.andThen]
         rw [Sem.run_bind, (hT _ _ hee).1.run_size]
         simp only [Result.andThen, Sem.run_pure]
         have hz : Option.map (fun x : Addr => x.add (0 * ee.size)) A = A := by
           cases A with
           | none => rfl
           | some z => simp [Addr.add]
         rw [hz]
         simp
       · exact hs.elim
     · exact hs.elim
   · exact hs.elim
 · rename_i e k off n c he hx
   split at hs
   · rename_i el hdesc
     split at hs
     · rename_i ee l h' hee hl hh
       obtain ⟨⟨h0, h1, h2, h3⟩, hk⟩ := hs
       refine ⟨_, hk, hgo ?_⟩
       have hu := (hT _ _ he).1.run_und (w := w)
       rw [hdesc] at hu
       rw [ev_ok h hx]
       simp only [SV.real, AV.real]
       unfold Instr.sliceAt
       rw [Sem.run_bind, hu]
       simp only [Result.andThen]
       unfold Instr.slice
       rw [Sem.run_bind, hu]
       simp only [Result.andThen, Option.map_none]
       rw [Sem.run_bind, run_bounds true n c (hopt hl) (hopt hh) h0 h1 h2]
       simp only [Result.andThen]
       rw [Sem.run_bind, (hT _ _ hee).1.run_size]
       simp only [Result.andThen, Sem.run_pure]
       rw [if_neg (by omega)]
       cases E.β k <;> simp [Addr.add_lit]
     · exact hs.elim
   · exact hs.elim
 · exact hs.elim

theorem sopConv_sound (hT : TTgood P T) (h : SRE C E st a w) {o : Oper} {s t : TypeId} {x : Operand} (ho : o.op = .convert s t x) {K : SV → Prop} (hs : sopConv T st s t x K) :
   ∃ v : SV, K v ∧ (execOp a.eval o).run P w = .ok (.value (v.real E)) w := by
 have hgo : ∀ {v : Value}, (convert s t (a.eval x)).run P w = .ok v w → (execOp a.eval o).run P w = .ok (.value v) w := by
   intro v hv
   obtain ⟨dst, op, type, pos, after, guard⟩ := o
   simp only at ho
   subst ho
   exact run_do rfl hv
 unfold sopConv at hs
 split at hs
 · rename_i es e hes he
   split at hs
   · rename_i el hd1 hd2
     split at hs
     · rename_i ee hee
       split at hs
       · rename_i hd3
         have hu1 := (hT _ _ hes).1.und
         have hu2 := (hT _ _ he).1.und
         have hu3 := (hT _ _ hee).1.und
         rw [hd1] at hu1
         rw [hd2] at hu2
         rw [hd3] at hu3
         have key : ∀ {b off n c : Nat} {l : List UInt8}, l.length = n → a.eval x = .slice (some ⟨b, off, none⟩) n c → (∀ j v, (bytV l)[j]? = some v → w.cell? ⟨b, off + j, none⟩ = some v) → (convert s t (a.eval x)).run P w = .ok (.string ⟨l.toArray⟩) w := by
           intro b off n c l hlen hev hc
           subst hlen
           rw [hev]
           exact run_convert_bytes_back w s t el ⟨b, off, none⟩ c l hu1 hu3 hu2 (fun j hj => by rw [Addr.add_lit]; exact hc j _ (by simp [bytV, hj]))
         split at hs
         · rename_i k hx
           split at hs
           · rename_i ty es' n xs hm
             cases hb : Nat.beq es' 1 with
             | false => rw [hb] at hs; exact hs.elim
             | true =>
               rw [hb] at hs
               have e1 := Nat.eq_of_beq_eq_true hb
               subst e1
               obtain ⟨l, hlen, hl, hk⟩ := hs.out
               refine ⟨_, hk, hgo ?_⟩
               obtain ⟨h1, hn, ⟨hβ, hω, h0⟩ | ⟨b, cur, hβ, hheap, _, _, _, htake⟩⟩ := own_cases (h.mem.ent _ _ hm)
               · have : l = [] := List.length_eq_zero_iff.1 (by omega)
                 subst this
                 rw [ev_ok h hx]
                 simp only [SV.real, AV.real, hβ, hω, Option.map_none]
                 rw [run_convert_bytes_string w s t el none 0 0 hu1 hu3 hu2]
                 rfl
               · refine key hlen (b := b) (off := 0) (c := (E.ω k).2) (by rw [ev_ok h hx]; simp [SV.real, AV.real, hβ, hn]) (fun j v hj => ?_)
                 rw [cell_of hheap, Nat.zero_add]
                 rw [← hl, ← htake, Nat.mul_one, List.take_take, List.getElem?_take] at hj
                 split at hj
                 · simpa using hj
                 · cases hj
           · exact hs.elim
         · rename_i k off n c hx
           split at hs
           · rename_i cs hcs
             obtain ⟨l, hlen, hl, hk⟩ := hs.out
             refine ⟨_, hk, hgo ?_⟩
             have hblock : ∃ b ty, E.β k = some b ∧ w.heap[b]? = some (.cells cs.toArray ty (0, 0)) := by
               unfold boxV at hcs
               split at hcs
               · rename_i cs' ty hm
                 obtain ⟨b, hb, hcells⟩ := h.mem.ent _ _ hm
                 rw [allV_real E hcs] at hcells
                 exact ⟨b, ty, hb, hcells⟩
               · rename_i cs' ty hm
                 cases hcs
                 obtain ⟨b, hb, hcells⟩ := h.mem.ent _ _ hm
                 exact ⟨b, ty, hb, hcells⟩
               · cases hcs
             obtain ⟨b, ty, hb, hcells⟩ := hblock
             refine key hlen (b := b) (off := off) (c := c) (by rw [ev_ok h hx]; simp [SV.real, AV.real, hb]) (fun j v hj => ?_)
             rw [cell_of hcells]
             rw [← hl, List.getElem?_take, List.getElem?_drop] at hj
             split at hj
             · simpa using hj
             · cases hj
           · exact hs.elim
         · exact hs.elim
       · exact hs.elim
     · exact hs.elim
   · exact hs.elim
 · exact hs.elim

theorem sopClr_sound (hT : TTgood P T) (h : SRE C E st a w) {o : Oper} {t : TypeId} {x : Operand} (ho : o.op = .call ⟨.builtin .clear, #[x], #[t]⟩) {K : SS → Prop} (hs : sopClr T st t x K) :
   ∃ st' w', K st' ∧ SRE C E st' a w' ∧ (execOp a.eval o).run P w = .ok (.value (.tuple #[])) w' := by
 unfold sopClr at hs
 split at hs
 · rename_i e k off n c he hx
   split at hs
   · rename_i el hdesc
     split at hs
     · rename_i ee hee
       split at hs
       · rename_i cs ty hm
         obtain ⟨⟨hn, hz, hfit, hone⟩, hk⟩ := hs
         obtain ⟨b, hb', hheap⟩ := h.mem.ent _ _ hm
         have hlen : (repl n ee.zero.cells.toList).length = n * ee.size := by rw [repl_length, hz]
         refine ⟨_, w.setRow b (putN off (repl n ee.zero.cells.toList) cs).toArray, hk, h.store hm hb' hheap (fun hn => ⟨b, hb', hn⟩), ?_⟩
         have hev : a.eval x = .slice (some ⟨b, off, none⟩) n c := by rw [ev_ok h hx]; simp [SV.real, AV.real, hb']
         have hst := run_storeCells_at (P := P) b off ty (repl n ee.zero.cells.toList) 0 _ w hheap (by simp [hlen]; exact hfit) (fun v hv => hone v (repl_mem hv))
         have hrow : cs.toArray.toList.take (off + 0) ++ repl n ee.zero.cells.toList ++ cs.toArray.toList.drop (off + 0 + (repl n ee.zero.cells.toList).length) = putN off (repl n ee.zero.cells.toList) cs := by
           rw [putN_eq _ _ _ (by omega)]; simp
         rw [hrow] at hst
         have hu := (hT _ _ he).1.run_und (w := w)
         rw [hdesc] at hu
         have hv : (Builtin.clear_ #[t] o.type #[.slice (some ⟨b, off, none⟩) n c]).run P w = .ok (.tuple #[]) (w.setRow b (putN off (repl n ee.zero.cells.toList) cs).toArray) := by
           obtain ⟨m, rfl⟩ : ∃ m, n = m + 1 := ⟨n - 1, by omega⟩
           unfold Builtin.clear_
           simp only [List.getElem?_toArray, List.getElem?_cons_zero]
           rw [Sem.run_bind, hu]
           simp only [Result.andThen]
           rw [Sem.run_bind, (hT _ _ hee).1.run_zero]
           simp only [Result.andThen]
           rw [Sem.run_bind, zeroCells_repl, hst]
           rfl
         obtain ⟨dst, op, type, pos, after, guard⟩ := o
         simp only at ho hv
         subst ho
         show (do let d ← resolve a.eval ⟨.builtin .clear, #[x], #[t]⟩ type; invoke d.target d.args : Sem Next).run P w = _
         have hs2 : builtin .clear #[t] type (#[x].map fun | .const _ => true | _ => false) (#[x].map a.eval) = (do pure (.value (← Builtin.clear_ #[t] type #[a.eval x])) : Sem Next) := by
           show (do pure (.value (← Builtin.clear_ #[t] type (#[x].map a.eval))) : Sem Next) = _
           simp
         exact (congrArg (fun z : Sem Next => z.run P w) hs2).trans (by rw [Sem.run_bind, hev, hv]; rfl)
       · exact hs.elim
     · exact hs.elim
   · exact hs.elim
 · exact hs.elim

theorem sopX_sound (hT : TTgood P T) (h : SRE C E st a w) {o : Oper} (hd : dstOk C.N o.dst = true) {K : SS → Prop} (hs : sopX P T C o st K) {next : Act → World → Prop} {Q : Exit → Act → World → Prop}
   (hK : ∀ st' a' w', K st' → SR C st' a' w' → next a' w') : o.wpIn (FW ro) n P a w next Q := by
 have hval : ∀ {v : SV}, (∀ c, o.op ≠ .defer c) → K (st.put o.dst v) → (execOp a.eval o).run P w = .ok (.value (v.real E)) w → o.wpIn (FW ro) n P a w next Q := by
   intro v hdf hk hrun
   refine wpIn_of_run hdf ?_
   rw [hrun]
   exact hK _ _ _ hk ⟨E, h.put hd v⟩
 have hop : (∀ c, o.op ≠ .defer c) → OpVC P C o st K → o.wpIn (FW ro) n P a w next Q := by
   intro hdf hs
   obtain ⟨st', w', E', v, hk, hst, hrun | ⟨hd0, hrun⟩⟩ := hs.out E a w h
   · refine wpIn_of_run hdf ?_
     rw [hrun]
     exact hK _ _ _ hk ⟨E', hst⟩
   · refine wpIn_of_run hdf ?_
     rw [hrun]
     show next (a.put o.dst undef) w'
     rw [hd0] at hst ⊢
     exact hK _ _ _ hk ⟨E', hst⟩
 unfold sopX at hs
 split at hs
 · rename_i ho
   exact hop (by rw [ho]; simp) hs
 · rename_i ho
   exact hop (by rw [ho]; simp) hs
 · rename_i ho
   exact hop (by rw [ho]; simp) hs
 · rename_i t x ho
   obtain ⟨v, hk, hrun⟩ := sopLoad_sound hT h ho hs
   exact hval (by rw [ho]; simp) hk hrun
 · rename_i t x y ho
   split at hs
   · rename_i hdst
     obtain ⟨st', w', hk, hst, hrun⟩ := sopStore_sound hT h ho hs
     refine wpIn_of_run (by rw [ho]; simp) ?_
     rw [hrun]
     show next (a.put o.dst undef) w'
     rw [hdst]
     exact hK _ _ _ hk ⟨E, hst⟩
   · exact hs.elim
 · rename_i t l c ho
   split at hs
   · rename_i d hdst
     rw [hdst] at hd
     obtain ⟨st', w', E', v, hk, hst, hrun⟩ := sopMake_sound hT h ho hd hs
     refine wpIn_of_run (by rw [ho]; simp) ?_
     rw [hrun]
     show next (a.put o.dst v) w'
     rw [hdst]
     exact hK _ _ _ hk ⟨E', hst⟩
   · exact hs.elim
 · rename_i t x lo hi mx ho
   obtain ⟨v, hk, hrun⟩ := sopSlice_sound hT h ho hs
   exact hval (by rw [ho]; simp) hk hrun
 · rename_i s t x ho
   obtain ⟨v, hk, hrun⟩ := sopConv_sound hT h ho hs
   exact hval (by rw [ho]; simp) hk hrun
 · rename_i args ts ho
   split at hs
   · rename_i d x y t t' hdst hargs hts
     cases hb : Nat.beq t t' with
     | false => rw [hb] at hs; exact hs.elim
     | true =>
       rw [hb] at hs
       have e1 := Nat.eq_of_beq_eq_true hb
       subst e1
       have ha : args = #[x, y] := by apply Array.ext'; simpa using hargs
       have ht : ts = #[t, t] := by apply Array.ext'; simpa using hts
       subst ha ht
       rw [hdst] at hd
       simp only [cond_true] at hs
       obtain ⟨st', w', E', v, hk, hst, hrun⟩ : ∃ st' w' E' v, K st' ∧ SRE C E' st' (a.put (some _) v) w' ∧ (execOp a.eval o).run P w = .ok (.value v) w' := by
         cases hnf : srcNF st x y with
         | false => rw [hnf] at hs; exact sopApp_sound hT h ho hd hs
         | true =>
           rw [hnf] at hs
           obtain ⟨E1, t1, hp, h1⟩ := hs.out E a w h
           exact sopApp_sound hT h1 ho hd hp
       refine wpIn_of_run (by rw [ho]; simp) ?_
       rw [hrun]
       show next (a.put o.dst v) w'
       rw [hdst]
       exact hK _ _ _ hk ⟨E', hst⟩
   · exact hs.elim
 · rename_i f args ts ho
   unfold sopCall at hs
   split at hs
   · rename_i l hl
     split at hs
     · rename_i g l' hcal
       refine wpIn_of_run (by rw [ho]; simp) ?_
       rw [callee_ok h hl hcal hs.enters _ ho]
       refine ⟨fun hh => (by cases hh), ?_⟩
       have := hs.out E w h.mem
       refine (callsIn_wide (n := n - 1)).2 (this.mono ?_)
       rintro e w' ⟨E', st', x, rfl, hmem, hkd, hsame, hk⟩
       have h2 : SRE C E' st' a w' := ⟨h.size, h.defers.keep hkd, fun i sv hi => by obtain ⟨sv0, h0, h1⟩ := hsame i sv hi; rw [h1]; exact h.tm i sv0 h0, hmem⟩
       exact hK _ _ _ hk ⟨E', h2.put hd x⟩
     · split at hs
       · rename_i k hy
         refine wpIn_of_run (by rw [ho]; simp) ?_
         obtain ⟨fn, tmps, assign, body, hrun, hround⟩ := hs.out E w h.mem ro (n - 1)
         rw [yield_ok h hl hy _ ho, hrun]
         refine ⟨fun hh => (by cases hh), hround.mono ?_⟩
         rintro e w' ⟨E', st', x, rfl, hmem, hkd, hsame, hk⟩
         have h2 : SRE C E' st' a w' := ⟨h.size, h.defers.keep hkd, fun i sv hi => by obtain ⟨sv0, h0, h1⟩ := hsame i sv hi; rw [h1]; exact h.tm i sv0 h0, hmem⟩
         exact hK _ _ _ hk ⟨E', h2.put hd x⟩
       · exact hs.elim
   · exact hs.elim
 · rename_i args ts ho
   split at hs
   · rename_i x t hargs hts
     have ha : args = #[x] := by apply Array.ext'; simpa using hargs
     have ht : ts = #[t] := by apply Array.ext'; simpa using hts
     subst ha ht
     obtain ⟨st', w', hk, hst, hrun⟩ := sopClr_sound hT h ho hs
     refine wpIn_of_run (by rw [ho]; simp) ?_
     rw [hrun]
     exact hK _ _ _ hk ⟨E, hst.put hd (.o (.v (.tuple #[])))⟩
   · exact hs.elim
 · exact hs.elim

theorem sop_sound (hT : TTgood P T) (h : SRE C E st a w) {o : Oper} {K : SS → Prop} (hs : sop P T C o st K) {next : Act → World → Prop} {Q : Exit → Act → World → Prop}
   (hK : ∀ st' a' w', K st' → SR C st' a' w' → next a' w') : o.wpIn (FW ro) n P a w next Q := by
 unfold sop at hs
 cases hd : dstOk C.N o.dst with
 | false => rw [hd] at hs; exact hs.elim
 | true =>
   rw [hd] at hs
   simp only [cond_true] at hs
   have hdef : ∀ {x}, dop T st (o.dst.getD 0) o.op = some x → ∀ c, o.op ≠ .defer c := by
     intro x hx c hc; rw [hc] at hx; cases hx
   split at hs
   · rename_i c x hdop
     obtain ⟨hc, hk⟩ := andc_inv hs
     have hdo := dop_sound hT h (o := o) hdop hc
     obtain ⟨v, w', E', hrun, hst, _⟩ := hdo.step h hd (by simp)
     refine wpIn_of_run (hdef hdop) ?_
     rw [hrun]
     exact hK _ _ _ hk ⟨E', hst⟩
   · rename_i c m x hdop
     split at hs
     · rename_i d hdst
       obtain ⟨hc, hk⟩ := andc_inv hs
       have hdo := dop_sound hT h (o := o) hdop hc
       obtain ⟨v, w', E', hrun, hst, _⟩ := hdo.step h hd (fun _ => by rw [hdst]; rfl)
       refine wpIn_of_run (hdef hdop) ?_
       rw [hrun]
       rw [hdst] at hst
       show next (a.put o.dst v) w'
       rw [hdst]
       exact hK _ _ _ hk ⟨E', hst⟩
     · exact hs.elim
   · rename_i hdop
     exact sopX_sound hT h hd hs hK

end
end Go.Sx
end
section
/- A symbolic executor over loaded Go code: what an operation hangs on. -/
namespace Go.Sx
open Go Go.RowKit

structure Same (st st' : SS) (xs : List Operand) : Prop where
 ev : ∀ x ∈ xs, ev st' x = ev st x
 me : ∀ x ∈ xs, ∀ sv k, Sx.ev st x = some sv → sv.has k = true → lk k st'.me = lk k st.me

theorem Same.mono {st st' : SS} {xs ys : List Operand} (h : Same st st' xs) (hs : ∀ y ∈ ys, y ∈ xs) : Same st st' ys :=
 ⟨fun y hy => h.ev y (hs y hy), fun y hy => h.me y (hs y hy)⟩

theorem fillS_congr {st st' : SS} {pl : Nat → Option (Nat × Nat)} : ∀ {ps : List (Nat × Operand)} {cs : List AV}, Same st st' (ps.map (·.2)) → fillS st' pl ps cs = fillS st pl ps cs
 | [], _, _ => rfl
 | (i, x) :: r, cs, h => by
   have hx := h.ev x (by simp)
   have hr : Same st st' (r.map (·.2)) := h.mono (fun y hy => List.mem_cons_of_mem _ hy)
   simp only [fillS, hx]
   split
   · rw [fillS_congr hr]
   · rfl
theorem capsOf_congr {st st' : SS} : ∀ {xs : List Operand}, Same st st' xs → capsOf st' xs = capsOf st xs
 | [], _ => rfl
 | x :: r, h => by
   have hx := h.ev x (by simp)
   have hr : Same st st' r := h.mono (fun y hy => List.mem_cons_of_mem _ hy)
   simp only [capsOf, hx, capsOf_congr hr]
theorem evs_congr {st st' : SS} : ∀ {xs : List Operand}, Same st st' xs → evs st' xs = evs st xs
 | [], _ => rfl
 | x :: r, h => by
   have hx := h.ev x (by simp)
   have hr : Same st st' r := h.mono (fun y hy => List.mem_cons_of_mem _ hy)
   simp only [evs, hx, evs_congr hr]
theorem map_ev_congr {st st' : SS} {xs : List Operand} (h : Same st st' xs) : xs.map (ev st') = xs.map (ev st) := List.map_congr_left fun x hx => h.ev x hx

theorem dn_congr {st st' : SS} {d : Nat} (h : st'.has d = st.has d) (m : ME) (x : SV) : dn st' d m x = dn st d m x := by unfold dn; rw [h]
theorem ownN_congr {st st' : SS} {k : Nat} (h : lk k st'.me = lk k st.me) : ownN st' k = ownN st k := by unfold ownN; rw [h]
theorem boxed_congr {st st' : SS} {k : Nat} (h : lk k st'.me = lk k st.me) : boxed st' k = boxed st k := by unfold boxed; rw [h]
theorem has_self_p (k off : Nat) : (SV.o (.p k off)).has k = true := by simp [SV.has, AV.has]
theorem has_self_s (k off n m : Nat) : (SV.o (.s k off n m)).has k = true := by simp [SV.has, AV.has]
theorem has_self_w (k : Nat) : (SV.o (.w k)).has k = true := by simp [SV.has, AV.has]

theorem dop_congr {T : TT} {st st' : SS} {d : Nat} {op : Op} (h : Same st st' op.operands.toList) (hd : st'.has d = st.has d) : dop T st' d op = dop T st d op := by
 cases op
 case move x => simp only [dop, h.ev x (by simp [Op.operands])]
 case assign x => simp only [dop, h.ev x (by simp [Op.operands])]
 case pick x y z => simp only [dop, h.ev x (by simp [Op.operands]), h.ev y (by simp [Op.operands]), h.ev z (by simp [Op.operands])]
 case alloc t => simp only [dop, dn_congr hd]
 case box t x => simp only [dop, dn_congr hd, h.ev x (by simp [Op.operands])]
 case build t ps =>
   have : Same st st' (ps.toList.map (·.2)) := h.mono (fun y hy => by simpa [Op.operands] using hy)
   simp only [dop, fillS_congr this]
 case buildSlice t n ps =>
   have : Same st st' (ps.toList.map (·.2)) := h.mono (fun y hy => by simpa [Op.operands] using hy)
   simp only [dop, fillS_congr this, dn_congr hd]
 case load t x =>
   have hx := h.ev x (by simp [Op.operands])
   simp only [dop, hx]
   split
   · rename_i e k off he hxx
     rw [h.me x (by simp [Op.operands]) _ k hxx (has_self_p _ _)]
   · rfl
 case binOp op t x y yt => simp only [dop, h.ev x (by simp [Op.operands]), h.ev y (by simp [Op.operands])]
 case unOp op t x => simp only [dop, h.ev x (by simp [Op.operands])]
 case convert s t x => simp only [dop, h.ev x (by simp [Op.operands])]
 case makeFunc fn first captured =>
   cases fn with
   | func f =>
     have : Same st st' captured.toList := h.mono (fun y hy => by simp [Op.operands]; exact .inr (by simpa using hy))
     simp only [dop, capsOf_congr this]
   | _ => simp only [dop]
 case fieldAddr s x f =>
   have hx := h.ev x (by simp [Op.operands])
   simp only [dop, hx]
   split
   · rename_i e y he hxx
     split
     · split
       · split
         · rename_i k off; rw [boxed_congr (h.me x (by simp [Op.operands]) _ k hxx (has_self_p _ _)), ownN_congr (h.me x (by simp [Op.operands]) _ k hxx (has_self_p _ _))]
         · rfl
         · rfl
       · rfl
     · rfl
   · rfl
 case field s x f => simp only [dop, h.ev x (by simp [Op.operands])]
 case indexAddr t x i =>
   have hx := h.ev x (by simp [Op.operands])
   have hi := h.ev i (by simp [Op.operands])
   simp only [dop, hx, hi]
   split
   · rename_i e y j he hxx hj
     split
     · split
       · rename_i ee k off _; rw [boxed_congr (h.me x (by simp [Op.operands]) _ k hxx (has_self_p _ _))]
       · rfl
     · split
       · rename_i ee k off n m _; rw [boxed_congr (h.me x (by simp [Op.operands]) _ k hxx (has_self_s _ _ _ _))]
       · rfl
       · rename_i ee k _; rw [h.me x (by simp [Op.operands]) _ k hxx (has_self_w _)]
       · rfl
     · rfl
   · rfl
 case index t x i => simp only [dop, h.ev x (by simp [Op.operands]), h.ev i (by simp [Op.operands])]
 case slice t x lo hi mx =>
   have hx := h.ev x (by simp [Op.operands])
   have hlo : ∀ z, lo = some z → ev st' z = ev st z := fun z hz => h.ev z (by subst hz; simp [Op.operands])
   have hhi : ∀ z, hi = some z → ev st' z = ev st z := fun z hz => h.ev z (by subst hz; simp [Op.operands])
   have hmx : ∀ z, mx = some z → ev st' z = ev st z := fun z hz => h.ev z (by subst hz; simp [Op.operands])
   simp only [dop, hx]
   split
   · cases lo with
     | none => cases hi with
       | none => rfl
       | some z => simp only [hhi z rfl]
     | some y => cases hi with
       | none => simp only [hlo y rfl]
       | some z => simp only [hlo y rfl, hhi z rfl]
   · cases lo with
     | none => cases hi with
       | none => rfl
       | some z => simp only [hhi z rfl]
     | some y => cases hi with
       | none => simp only [hlo y rfl]
       | some z => simp only [hlo y rfl, hhi z rfl]
   · split
     · rename_i hh _
       simp only [hhi hh rfl, hmx _ rfl]
     · rfl
   · rfl
 case extract x i => simp only [dop, h.ev x (by simp [Op.operands])]
 case call c =>
   obtain ⟨callee, args, ts⟩ := c
   cases callee with
   | builtin b =>
     have hs : Same st st' args.toList := h.mono (fun y hy => by simpa [Op.operands, Call.operands] using hy)
     simp only [dop, map_ev_congr hs]
     unfold bltin
     split
     · rename_i t tr x hts hargs
       split
       · rename_i e he
         split
         · rfl
         · rfl
         · rfl
         · rfl
         · rename_i k hdesc
           obtain ⟨y, hy, hxy⟩ : ∃ y, y ∈ args.toList ∧ ev st y = some (.o (.w k)) := by
             rcases args with ⟨_ | ⟨y, _ | ⟨z, r⟩⟩⟩
             · simp at hargs
             · exact ⟨y, by simp, by simpa using hargs⟩
             · simp at hargs
           rw [hs.me y hy _ k hxy (has_self_w k)]
         · rfl
       · rfl
     · rfl
     · rfl
     · rfl
     · rfl
   | _ => simp only [dop]
 all_goals simp only [dop]

theorem fillS_has {st : SS} {pl : Nat → Option (Nat × Nat)} {k : Nat} (hk : st.has k = false) : ∀ {ps : List (Nat × Operand)} {cs cs' : List AV}, fillS st pl ps cs = some cs' → cs.any (AV.has k) = false → cs'.any (AV.has k) = false
 | [], cs, cs', hf, hc => by simp only [fillS, Option.some.injEq] at hf; subst hf; exact hc
 | (i, x) :: r, cs, cs', hf, hc => by
   simp only [fillS] at hf
   split at hf
   · rename_i off size sv hp hx
     by_cases hb : (Nat.beq sv.cells.length size && Nat.ble (off + size) cs.length) = true
     · rw [hb] at hf
       exact fillS_has hk hf (putN_any _ _ _ (SV.cells_has (ev_has hk hx)) hc)
     · rw [Bool.not_eq_true] at hb
       rw [hb] at hf; cases hf
   · cases hf
theorem capsOf_has {st : SS} {k : Nat} (hk : st.has k = false) : ∀ {l : List Operand} {cs : List CP}, capsOf st l = some cs → cs.any (CP.has k) = false
 | [], cs, hl => by simp only [capsOf, Option.some.injEq] at hl; subst hl; rfl
 | x :: r, cs, hl => by
   simp only [capsOf] at hl
   split at hl
   · rename_i j off l hx hr
     have ih := capsOf_has hk hr
     by_cases ho : off = 0
     · subst ho
       simp only [Nat.beq_refl, cond_true, Option.some.injEq] at hl
       subst hl
       have := ev_has hk hx
       simp only [List.any_cons, ih, Bool.or_false]
       exact this
     · rw [beq_false.2 ho] at hl; cases hl
   · rename_i y l hx hr
     cases hl
     simp [capsOf_has hk hr, CP.has]
   · cases hl

def NoName (k : Nat) (m : Option ME) (x : SV) : Prop := x.has k = false ∧ ∀ y, m = some y → y.has k = false
theorem NoName.val {k : Nat} {y : Value} : NoName k none (.o (.v y)) := ⟨rfl, fun _ h => by cases h⟩
theorem intOp_has {op : BinOp} {k k' : IntKind} {x y : Int} {c : Option Prop} {m : Option ME} {sv : SV} (h : intOp op k k' x y = some (c, m, sv)) (j : Nat) : NoName j m sv := by
 cases op
 case shl => cases h; exact .val
 case shr => cases h; exact .val
 all_goals
   by_cases e : k = k'
   case neg => simp [intOp, e] at h
   subst e
   simp only [intOp, dv, dc, decide_true, cond_true, Option.some.injEq, Prod.mk.injEq] at h
   obtain ⟨rfl, rfl, rfl⟩ := h
   exact .val
theorem strOp_has {op : BinOp} {x y : ByteArray} {c : Option Prop} {m : Option ME} {sv : SV} (h : strOp op x y = some (c, m, sv)) (j : Nat) : NoName j m sv := by
 cases op <;> simp only [strOp, dv, dc] at h <;> cases h <;> exact .val

theorem dop_has {T : TT} {st : SS} {d : Nat} {op : Op} {c : Option Prop} {m : Option ME} {x : SV} (hd : dop T st d op = some (c, m, x)) {k : Nat} (hk : st.has k = false) (hkd : k ≠ d) : NoName k m x := by
 have hw : ∀ {y : Operand} {sv : SV}, ev st y = some sv → NoName k none sv := fun hy => ⟨ev_has hk hy, fun _ h => by cases h⟩
 cases op
 case move y =>
   simp only [dop] at hd
   split at hd
   · rename_i s hx; cases hd; exact hw hx
   · cases hd
 case assign y =>
   simp only [dop] at hd
   split at hd
   · rename_i s hx; cases hd; exact hw hx
   · cases hd
 case pick a b e =>
   simp only [dop] at hd
   split at hd
   · rename_i bb hx
     cases bb <;> simp only at hd <;> split at hd
     · rename_i s hy; cases hd; exact hw hy
     · cases hd
     · rename_i s hy; cases hd; exact hw hy
     · cases hd
   · cases hd
 case alloc t =>
   simp only [dop] at hd
   split at hd
   · obtain ⟨h1, rfl, rfl⟩ := dn_inv hd
     exact ⟨has_p hkd, fun y hy => by cases hy; exact any_v _ _⟩
   · cases hd
 case box t y =>
   simp only [dop] at hd
   split at hd
   · rename_i s hx
     obtain ⟨h1, rfl, rfl⟩ := dn_inv hd
     exact ⟨has_p hkd, fun y hy => by cases hy; exact SV.cells_has (ev_has hk hx)⟩
   · cases hd
 case build t ps =>
   simp only [dop] at hd
   split at hd
   · rename_i e he
     by_cases hall : allT T e.desc = true
     · rw [hall] at hd
       simp only [cond_true] at hd
       split at hd
       · rename_i cs hf
         rw [dwf_eq] at hd
         cases hd
         exact ⟨mkA_has (fillS_has hk hf (any_v _ _)), fun _ h => by cases h⟩
       · cases hd
     · rw [Bool.not_eq_true] at hall
       rw [hall] at hd; cases hd
   · cases hd
 case buildSlice t n ps =>
   simp only [dop] at hd
   split at hd
   · rename_i e he
     split at hd
     · rename_i el hdesc
       split at hd
       · rename_i ee hee
         by_cases hb : (Nat.ble (n * ee.size) 1000 && Nat.beq ee.zero.cells.toList.length ee.size) = true
         · rw [hb] at hd
           simp only [cond_true] at hd
           split at hd
           · rename_i cs hf
             obtain ⟨h1, rfl, rfl⟩ := dn_inv hd
             exact ⟨has_s hkd, fun y hy => by cases hy; exact fillS_has hk hf (repl_any _ (any_v _ _))⟩
           · cases hd
         · rw [Bool.not_eq_true] at hb
           rw [hb] at hd; cases hd
       · cases hd
     · cases hd
   · cases hd
 case load t y =>
   simp only [dop] at hd
   split at hd
   · rename_i e j off he hx
     split at hd
     · rename_i cs ty hm
       split at hd
       · rename_i l hl
         have hl' := pload_ok hl (SS.has_me hk hm).2
         by_cases hg : isAggD e.desc = true
         · rw [hg] at hd
           simp only [cond_true, dwf_eq] at hd
           cases hd
           exact ⟨mkA_has hl', fun _ h => by cases h⟩
         · rw [Bool.not_eq_true] at hg
           rw [hg] at hd
           simp only [cond_false] at hd
           split at hd
           · cases hd
             rw [List.any_cons, List.any_nil, Bool.or_false] at hl'
             exact ⟨hl', fun _ h => by cases h⟩
           · cases hd
       · cases hd
     · cases hd
   · cases hd
 case binOp op t y z yt =>
   simp only [dop] at hd
   split at hd
   · exact intOp_has hd k
   · exact strOp_has hd k
   · split at hd
     · split at hd
       · cases hd; exact .val
       · cases hd
     · split at hd
       · cases hd; exact .val
       · cases hd
     · cases hd
   · split at hd
     · split at hd
       · split at hd
         · cases hd; exact .val
         · cases hd; exact .val
         · cases hd
       · cases hd
     · cases hd
   · split at hd
     · split at hd
       · cases hd; exact .val
       · cases hd
     · split at hd
       · cases hd; exact .val
       · cases hd
     · cases hd
   · cases hd
 case unOp op t y =>
   simp only [dop] at hd
   split at hd <;> cases hd <;> exact .val
 case convert s t y =>
   simp only [dop] at hd
   split at hd
   · split at hd
     · cases hd; exact .val
     · cases hd
   · split at hd
     · cases hd; exact .val
     · cases hd
   · cases hd
 case makeFunc fn first captured =>
   cases fn with
   | func f =>
     simp only [dop] at hd
     split at hd
     · rename_i l hfirst hl
       cases hd
       exact ⟨capsOf_has hk hl, fun _ h => by cases h⟩
     · cases hd
   | _ => simp [dop] at hd
 case fieldAddr s y f =>
   simp only [dop] at hd
   split at hd
   · rename_i e z he hx
     split at hd
     · rename_i fd hfd
       split at hd
       · rename_i fe hfe
         by_cases hz : fe.size = 0
         · rw [beq_true.2 hz] at hd; cases hd
         · rw [beq_false.2 hz] at hd
           simp only [cond_false] at hd
           split at hd
           · rename_i j off
             cases hbx : boxed st j with
             | false =>
               rw [hbx] at hd
               simp only [cond_false] at hd
               split at hd
               · cases hd; exact ⟨has_off hk hx, fun _ h => by cases h⟩
               · cases hd
             | true => rw [hbx] at hd; cases hd; exact ⟨has_off hk hx, fun _ h => by cases h⟩
           · cases hd; exact .val
           · cases hd
       · cases hd
     · cases hd
   · cases hd
 case field s y f =>
   simp only [dop] at hd
   split at hd
   · split at hd
     · split at hd
       · rename_i fe hfe
         split at hd
         · split at hd
           · by_cases hg : isAggD fe.desc = true
             · rw [hg] at hd; cases hd; exact .val
             · rw [Bool.not_eq_true] at hg
               rw [hg] at hd
               simp only [cond_false] at hd
               split at hd
               · cases hd; exact .val
               · cases hd
           · cases hd
         · cases hd
       · cases hd
     · cases hd
   · cases hd
 case indexAddr t y i =>
   simp only [dop] at hd
   split at hd
   · rename_i e z j he hx hj
     split at hd
     · split at hd
       · rename_i ee q off hee
         cases hbx : boxed st q with
         | false => rw [hbx] at hd; cases hd
         | true => rw [hbx] at hd; cases hd; exact ⟨has_off hk hx, fun _ h => by cases h⟩
       · cases hd
     · split at hd
       · rename_i ee q off n cap hee
         cases hbx : boxed st q with
         | false => rw [hbx] at hd; cases hd
         | true => rw [hbx] at hd; cases hd; exact ⟨has_off_s hk hx, fun _ h => by cases h⟩
       · cases hd; exact .val
       · rename_i ee q hee
         split at hd
         · cases hd; exact ⟨has_off_w hk hx, fun _ h => by cases h⟩
         · cases hd
       · cases hd
     · cases hd
   · cases hd
 case index t y i =>
   simp only [dop] at hd
   split at hd
   · split at hd
     · cases hd; exact .val
     · split at hd
       · rename_i ee hee
         split at hd
         · by_cases hg : isAggD ee.desc = true
           · rw [hg] at hd; cases hd; exact .val
           · rw [Bool.not_eq_true] at hg
             rw [hg] at hd
             simp only [cond_false] at hd
             split at hd
             · cases hd; exact .val
             · cases hd
         · cases hd
       · cases hd
     · cases hd
   · cases hd
 case slice t y lo hi mx =>
   simp only [dop] at hd
   split at hd
   · split at hd
     · split at hd
       · cases hd; exact .val
       · cases hd
     · cases hd
   · split at hd
     · split at hd
       · cases hd; exact .val
       · cases hd
     · cases hd
   · split at hd
     · split at hd
       · cases hd; exact .val
       · cases hd
     · cases hd
   · cases hd
 case extract y i =>
   simp only [dop] at hd
   split at hd
   · rename_i y' hx
     split at hd
     · rename_i vs
       split at hd
       · rename_i v hv
         cases hd
         refine ⟨?_, fun _ h => by cases h⟩
         have h1 := ev_has hk hx
         rw [nth_eq] at hv
         simp only [SV.has, AV.has, List.any_eq_false] at h1
         have h2 := h1 v (List.mem_of_getElem? hv)
         rw [Bool.not_eq_true] at h2
         cases v <;> exact h2
       · cases hd
     · split at hd
       · split at hd
         · cases hd; exact .val
         · cases hd
       · cases hd
     · cases hd
   · cases hd
 case call c =>
   obtain ⟨callee, args, ts⟩ := c
   cases callee with
   | builtin b =>
     simp only [dop] at hd
     unfold bltin at hd
     split at hd
     · split at hd
       · split at hd
         · cases hd; exact .val
         · cases hd; exact .val
         · cases hd; exact .val
         · cases hd; exact .val
         · split at hd
           · cases hd; exact .val
           · cases hd
         · cases hd
       · cases hd
     · cases hd; exact .val
     · cases hd; exact .val
     · cases hd; exact .val
     · cases hd
   | _ => simp [dop] at hd
 all_goals (simp [dop] at hd)

end Go.Sx
end
section
/- A symbolic executor over loaded Go code: lists of operations; regions whose order is drawn. -/
namespace Go.Sx
open Go Go.RowKit

def br : Bool → Prop → Prop → Prop
 | true, A, _ => A
 | false, _, B => B
theorem br_split {b : Bool} {A B : Prop} (ht : b = true → A) (hf : b = false → B) : br b A B := by
 cases b
 · exact hf rfl
 · exact ht rfl
theorem br_true {b : Bool} {A B : Prop} (h : b = true) (ht : A) : br b A B := by subst h; exact ht
theorem br_false {b : Bool} {A B : Prop} (h : b = false) (hf : B) : br b A B := by subst h; exact hf

def gval (all : List Oper) (st : SS) (j : Nat) : Option (Nat × Bool) := match nth j all with
 | some oj => match oj.dst with
   | some t => match lk t st.tm with
     | some (.o (.v (.bool b))) => some (t, b)
     | _ => none
   | none => none
 | none => none

def gund (all : List Oper) (st : SS) (j : Nat) : Bool := match nth j all with
 | some oj => match oj.dst with
   | some t => match lk t st.tm with
     | some (.o (.v (.tuple _))) => true
     | _ => false
   | none => false
 | none => false
def sopG (P : Program) (T : TT) (C : Cx) (all : List Oper) (o : Oper) (st : SS) (K : SS → Prop) : Prop := match o.guard with
 | none => sop P T C o st K
 | some (j, want) => match gval all st j with
   | some (t, b) => match want with
     | true => br b (sop P T C o (st.put (some t) (.o (.v (.bool true)))) K) (bif dstOk C.N o.dst then K ((st.put (some t) (.o (.v (.bool false)))).put o.dst (.o (.v undef))) else False)
     | false => br b (bif dstOk C.N o.dst then K ((st.put (some t) (.o (.v (.bool true)))).put o.dst (.o (.v undef))) else False) (sop P T C o (st.put (some t) (.o (.v (.bool false)))) K)
   | none => bif gund all st j then (bif dstOk C.N o.dst then K (st.put o.dst (.o (.v undef))) else False) else False
def sops (P : Program) (T : TT) (C : Cx) (all : List Oper) : List Oper → SS → (SS → Prop) → Prop
 | [], st, K => K st
 | o :: r, st, K => sopG P T C all o st (fun st' => sops P T C all r st' K)

section
variable {P : Program} {T : TT} {C : Cx} {E : Env} {st : SS} {a : Act} {w : World} {ro : Option Nat} {n : Nat}

theorem gval_ok (h : SRE C E st a w) {ops : Array Oper} {j t : Nat} {b : Bool} (hg : gval ops.toList st j = some (t, b)) : yielded ops a.tmps j = some b ∧ lk t st.tm = some (.o (.v (.bool b))) := by
 unfold gval at hg
 split at hg
 · rename_i oj hj
   split at hg
   · rename_i t' hd
     split at hg
     · rename_i b' hl
       cases hg
       rw [nth_eq, Array.getElem?_toList] at hj
       have := h.tm _ _ hl
       refine ⟨?_, hl⟩
       unfold yielded
       simp only [hj, Option.bind_some, hd, this]
       rfl
     · cases hg
   · cases hg
 · cases hg

theorem gund_ok (h : SRE C E st a w) {ops : Array Oper} {j : Nat} (hg : gund ops.toList st j = true) : yielded ops a.tmps j = none := by
 unfold gund at hg
 split at hg
 · rename_i oj hj
   split at hg
   · rename_i t' hd
     split at hg
     · rename_i vs hl
       rw [nth_eq, Array.getElem?_toList] at hj
       have := h.tm _ _ hl
       unfold yielded
       simp only [hj, Option.bind_some, hd, this]
       rfl
     · cases hg
   · cases hg
 · cases hg

theorem SRE.redo (h : SRE C E st a w) {t : Nat} {x : SV} (hl : lk t st.tm = some x) : SRE C E (st.put (some t) x) a w := by
 refine ⟨h.size, h.defers, fun i sv hi => ?_, h.mem⟩
 simp only [SS.put, lk_cons] at hi
 split at hi
 · rename_i e; subst e; cases hi; exact h.tm _ _ hl
 · exact h.tm _ _ hi

theorem sopG_sound (hT : TTgood P T) (hs' : SR C st a w) {ops : Array Oper} {o : Oper} {K : SS → Prop} (hs : sopG P T C ops.toList o st K) {next : Act → World → Prop} {Q : Exit → Act → World → Prop}
   (hK : ∀ st' a' w', K st' → SR C st' a' w' → next a' w') :
   if Region.wanted o (yielded ops a.tmps) then o.wpIn (FW ro) n P a w next Q else (∀ f, o.about P w a.eval = some f → (FW ro).fn f) ∧ next (a.put o.dst undef) w := by
 obtain ⟨E, h⟩ := hs'
 unfold sopG at hs
 unfold Region.wanted
 split at hs
 · rename_i hg
   rw [hg]
   exact sop_sound hT h hs hK
 · rename_i j want hg
   rw [hg]
   split at hs
   · rename_i t b hgv
     obtain ⟨hy, hl⟩ := gval_ok h hgv
     simp only [hy]
     have hskip : ∀ bb, b = bb → (bif dstOk C.N o.dst then K ((st.put (some t) (.o (.v (.bool bb)))).put o.dst (.o (.v undef))) else False) → next (a.put o.dst undef) w := by
       intro bb hbb hk
       subst hbb
       cases hd : dstOk C.N o.dst with
       | false => rw [hd] at hk; exact hk.elim
       | true => rw [hd] at hk; exact hK _ _ _ hk ⟨E, (h.redo hl).put hd _⟩
     cases want <;> cases b <;> simp only [br] at hs
     · exact sop_sound hT (h.redo hl) hs hK
     · exact ⟨fun _ _ => trivial, hskip true rfl hs⟩
     · exact ⟨fun _ _ => trivial, hskip false rfl hs⟩
     · exact sop_sound hT (h.redo hl) hs hK
   · cases hgu : gund ops.toList st j with
     | false => rw [hgu] at hs; exact hs.elim
     | true =>
       rw [hgu] at hs
       simp only [cond_true] at hs
       simp only [gund_ok h hgu]
       rw [if_neg (by simp)]
       refine ⟨fun _ _ => trivial, ?_⟩
       cases hd : dstOk C.N o.dst with
       | false => rw [hd] at hs; exact hs.elim
       | true => rw [hd] at hs; exact hK _ _ _ hs ⟨E, h.put hd _⟩

theorem sops_sound (hT : TTgood P T) {ops : Array Oper} {Q : Exit → Act → World → Prop} {K : SS → Prop} (hK : ∀ st' a' w', K st' → SR C st' a' w' → Q .normal a' w') : ∀ {l : List Oper} {st : SS} {a : Act} {w : World}, SR C st a w → sops P T C ops.toList l st K →
   wpListIn (FW ro) n P ops Q l a w
 | [], st, a, w, h, hs => hK _ _ _ hs h
 | o :: r, st, a, w, h, hs => by
   have := sopG_sound (ro := ro) (n := n) hT h hs (next := wpListIn (FW ro) n P ops Q r) (Q := Q) (fun st' a' w' hk hr => sops_sound hT hK hr hk)
   exact this

theorem LoadVC.mono {n : Nat} {agg : Bool} {A : Option Addr} {K K' : SV → Prop} (h : LoadVC st n agg A K) (hk : ∀ x, K x → K' x) : LoadVC st n agg A K' := by
 obtain ⟨vs, h1, h2, h3, h4⟩ := h.out
 exact ⟨vs, h1, h2, h3, hk _ h4⟩
theorem RowVC.mono {cs : List Value} {off n : Nat} {agg : Bool} {K K' : SV → Prop} (h : RowVC cs off n agg K) (hk : ∀ x, K x → K' x) : RowVC cs off n agg K' := by
 obtain ⟨hp, l, h1, h2, h3, h4⟩ := h
 exact ⟨hp, l, h1, h2, h3, hk _ h4⟩
theorem CallVC.mono {g : FuncId} {args : List SV} {K K' : SV → SS → Prop} (h : CallVC P C g args st K) (hk : ∀ x s, K x s → K' x s) : CallVC P C g args st K' :=
 ⟨h.enters, fun E w hm => (h.out E w hm).mono fun e w' ⟨E', st', x, h1, h2, h3, h4, h5⟩ => ⟨E', st', x, h1, h2, h3, h4, hk _ _ h5⟩⟩
theorem SrcVC.mono {A : Option Addr} {n : Nat} {K K' : List Value → Prop} (h : SrcVC st A n K) (hk : ∀ x, K x → K' x) : SrcVC st A n K' := by
 obtain ⟨vs, h1, h2, h3, h4⟩ := h.out
 exact ⟨vs, h1, h2, h3, hk _ h4⟩
theorem StrVC.mono {cs : List Value} {n : Nat} {K K' : SV → Prop} (h : StrVC cs n K) (hk : ∀ x, K x → K' x) : StrVC cs n K' := by
 obtain ⟨l, h1, h2, h3⟩ := h.out
 exact ⟨l, h1, h2, hk _ h3⟩
theorem PVC.mono {c K K' : Prop} (h : PVC c K) (hk : K → K') : PVC c K' := ⟨h.c, hk h.k⟩
theorem bif_mono {b : Bool} {A A' : Prop} (ha : A → A') (h : bif b then A else False) : bif b then A' else False := by cases b; exact h; exact ha h
theorem bif_mono2 {b : Bool} {A A' B B' : Prop} (ha : A → A') (hb : B → B') (h : bif b then A else B) : bif b then A' else B' := by cases b; exact hb h; exact ha h
theorem bifn_mono {b : Bool} {A A' : Prop} (ha : A → A') (h : bif b then False else A) : bif b then False else A' := by cases b; exact ha h; exact h
theorem andc_mono {c : Option Prop} {K K' : Prop} (hk : K → K') (h : andc c K) : andc c K' := by
 cases c with
 | none => exact hk h
 | some c => exact ⟨h.c, hk h.k⟩
theorem sopLoad_mono {t : TypeId} {x : Operand} {K K' : SV → Prop} (hk : ∀ s, K s → K' s) (h : sopLoad T st t x K) : sopLoad T st t x K' := by
 unfold sopLoad at *
 split at h
 · exact h.mono hk
 · split at h
   · exact h.mono hk
   · exact h.elim
 · exact h.elim
theorem sopStore_mono {t : TypeId} {x y : Operand} {K K' : SS → Prop} (hk : ∀ s, K s → K' s) (h : sopStore T st t x y K) : sopStore T st t x y K' := by
 unfold sopStore at *
 split at h
 · refine bif_mono ?_ h
   intro h
   split at h
   · exact bif_mono (hk _) h
   · split at h
     · exact h.mono (hk _)
     · exact h.elim
   · split at h
     · exact h.mono (hk _)
     · exact h.elim
   · exact h.elim
 · exact h.elim
theorem sopMake_mono {d : Nat} {t : TypeId} {x y : Operand} {K K' : SS → Prop} (hk : ∀ s, K s → K' s) (h : sopMake T st d t x y K) : sopMake T st d t x y K' := by
 unfold sopMake at *
 split at h
 · split at h
   · split at h
     · exact bifn_mono (fun h => h.mono (hk _)) h
     · exact h.elim
   · exact h.elim
 · exact h.elim
theorem sopSlice_mono {t : TypeId} {x : Operand} {lo hi mx : Option Operand} {K K' : SV → Prop} (hk : ∀ s, K s → K' s) (h : sopSlice T st t x lo hi mx K) : sopSlice T st t x lo hi mx K' := by
 unfold sopSlice at *
 split at h
 · split at h
   · split at h
     · exact bif_mono (fun h => h.mono (hk _)) h
     · exact h.elim
   · exact h.elim
 · split at h
   · split at h
     · exact h.mono (hk _)
     · exact h.elim
   · split at h
     · split at h
       · exact h.mono (hk _)
       · exact h.elim
     · exact h.elim
   · exact h.elim
 · split at h
   · split at h
     · exact h.mono (hk _)
     · exact h.elim
   · exact h.elim
 · exact h.elim
theorem sopClr_mono {t : TypeId} {x : Operand} {K K' : SS → Prop} (hk : ∀ s, K s → K' s) (h : sopClr T st t x K) : sopClr T st t x K' := by
 unfold sopClr at *
 split at h
 · split at h
   · split at h
     · split at h
       · exact h.mono (hk _)
       · exact h.elim
     · exact h.elim
   · exact h.elim
 · exact h.elim
theorem srcOf_mono {es : Nat} {y : Operand} {f f' : Nat → List Value → Prop} (hk : ∀ m vs, f m vs → f' m vs) (h : srcOf st es y f) : srcOf st es y f' := by
 unfold srcOf at *
 split at h
 · split at h
   · split at h
     · exact bif_mono (fun h => hk _ _ h) h
     · exact h.elim
   · exact h.elim
 · exact h.mono fun vs h => hk _ _ h
 · split at h
   · exact bif_mono (fun h => h.mono (hk _ _)) h
   · exact h.elim
 · exact h.elim
theorem sopConv_mono {s t : TypeId} {x : Operand} {K K' : SV → Prop} (hk : ∀ s, K s → K' s) (h : sopConv T st s t x K) : sopConv T st s t x K' := by
 unfold sopConv at *
 split at h
 · split at h
   · split at h
     · split at h
       · split at h
         · split at h
           · exact bif_mono (fun h => h.mono hk) h
           · exact h.elim
         · split at h
           · exact h.mono hk
           · exact h.elim
         · exact h.elim
       · exact h.elim
     · exact h.elim
   · exact h.elim
 · exact h.elim
theorem sopApp_mono {d : Nat} {t : TypeId} {x y : Operand} {K K' : SS → Prop} (hk : ∀ s, K s → K' s) (h : sopApp T st d t x y K) : sopApp T st d t x y K' := by
 unfold sopApp at *
 split at h
 · split at h
   · split at h
     · refine bifn_mono ?_ h
       intro h
       split at h
       · split at h
         · exact bif_mono (srcOf_mono fun m vs h => h.mono (hk _)) h
         · exact h.elim
       · exact srcOf_mono (fun m vs h => h.mono (hk _)) h
       · exact h.mono fun xs h => srcOf_mono (fun m vs h => h.mono (hk _)) h
       · exact h.elim
     · exact h.elim
   · exact h.elim
 · exact h.elim
theorem sopCall_mono {f : Operand} {args : Array Operand} {K K' : SV → SS → Prop} (hk : ∀ x s, K x s → K' x s) (h : sopCall P C st f args K) : sopCall P C st f args K' := by
 unfold sopCall at *
 split at h
 · split at h
   · exact h.mono hk
   · split at h
     · exact ⟨fun E w hm ro m => by
         obtain ⟨fn, tmps, assign, body, h1, h2⟩ := h.out E w hm ro m
         exact ⟨fn, tmps, assign, body, h1, h2.mono (fun e w' ⟨E', st', x, h3, h4, h5, h6, h7⟩ => ⟨E', st', x, h3, h4, h5, h6, hk _ _ h7⟩)⟩⟩
     · exact h.elim
 · exact h.elim
theorem OpVC.mono {o : Oper} {K K' : SS → Prop} (hk : ∀ s, K s → K' s) (h : OpVC P C o st K) : OpVC P C o st K' :=
 ⟨fun E a w hr => let ⟨st', w', E', v, k, r⟩ := h.out E a w hr; ⟨st', w', E', v, hk _ k, r⟩⟩
theorem sopX_mono {o : Oper} {K K' : SS → Prop} (hk : ∀ s, K s → K' s) (h : sopX P T C o st K) : sopX P T C o st K' := by
 unfold sopX at *
 split at h
 · exact OpVC.mono hk h
 · exact OpVC.mono hk h
 · exact OpVC.mono hk h
 · exact sopLoad_mono (fun _ => hk _) h
 · split at h
   · exact sopStore_mono hk h
   · exact h.elim
 · split at h
   · exact sopMake_mono hk h
   · exact h.elim
 · exact sopSlice_mono (fun _ => hk _) h
 · exact sopConv_mono (fun _ => hk _) h
 · split at h
   · exact bif_mono (bif_mono2 (fun h => ⟨fun E a w hr => let ⟨E1, t, hp, h1⟩ := h.out E a w hr; ⟨E1, t, sopApp_mono hk hp, h1⟩⟩) (sopApp_mono hk)) h
   · exact h.elim
 · exact sopCall_mono (fun _ _ => hk _) h
 · split at h
   · exact sopClr_mono (fun _ => hk _) h
   · exact h.elim
 · exact h.elim
theorem sop_mono {o : Oper} {K K' : SS → Prop} (hk : ∀ s, K s → K' s) (h : sop P T C o st K) : sop P T C o st K' := by
 unfold sop at *
 cases hd : dstOk C.N o.dst with
 | false => rw [hd] at h; exact h.elim
 | true =>
   rw [hd] at h
   simp only [cond_true] at h ⊢
   split at h
   · exact andc_mono (hk _) h
   · split at h
     · exact andc_mono (hk _) h
     · exact h.elim
   · exact sopX_mono hk h
theorem br_mono {b : Bool} {A A' B B' : Prop} (ha : A → A') (hb : B → B') (h : br b A B) : br b A' B' := by cases b; exact hb h; exact ha h
theorem sopG_mono {all : List Oper} {o : Oper} {K K' : SS → Prop} (hk : ∀ s, K s → K' s) (h : sopG P T C all o st K) : sopG P T C all o st K' := by
 unfold sopG at *
 split at h
 · exact sop_mono hk h
 · split at h
   · rename_i want _ _ t b _
     cases want
     · exact br_mono (bif_mono (hk _)) (sop_mono hk) h
     · exact br_mono (sop_mono hk) (bif_mono (hk _)) h
   · exact bif_mono (bif_mono (hk _)) h

def CallV (P : Program) (g : FuncId) (args : List SV) (st : SS) (R : World → Ending → World → Prop) : Prop := ∀ E w, (∀ k mm, args.any (SV.has k) = true → lk k st.me = some mm → MEok E w k mm) → (∀ R ∈ st.re, R.φ w) → Calls P g (args.map (SV.real E)).toArray w (R w)
def retsV (r : Value) (w : World) (e : Ending) (w' : World) : Prop := e = .returned r ∧ Bel w.heap.size w w'
def retsO (t es n : Nat) (xs : List Value) (w : World) (e : Ending) (w' : World) : Prop := ∃ v, e = .returned v ∧ w'.ownsRow w.heap.size t es v n xs ∧ Bel w.heap.size w w'
structure CallVCd (P : Program) (g : FuncId) (args : List SV) (d : Option Tmp) (st : SS) (K : SV → Option ME → Prop) : Prop where
 enters : Enters P g
 out : (∃ r : Value, CallV P g args st (retsV r) ∧ K (.o (.v r)) none) ∨
   (∃ t es n xs, CallV P g args st (retsO t es n xs) ∧ K (.o (.w (d.getD 0))) (some (.own t es n xs)))

def SS.upd (st : SS) (o : Oper) (x : SV) (m : Option ME) : SS := match m with
 | none => st.put o.dst x
 | some mm => (st.mem (o.dst.getD 0) mm).put o.dst x
def updK (o : Oper) (st : SS) (K : SS → Prop) (x : SV) : Option ME → Prop
 | none => K (st.put o.dst x)
 | some m => match o.dst with
   | some d => bif st.has d then False else K ((st.mem d m).put (some d) x)
   | none => False

def dsopX (P : Program) (T : TT) (o : Oper) (st : SS) (K : SS → Prop) : Prop :=
 match o.op with
 | .load t x => sopLoad T st t x (fun v => K (st.put o.dst v))
 | .call ⟨.value f, args, _⟩ => match evs st args.toList with
   | some l => match callee (ev st f) l with
     | some (g, l') => CallVCd P g l' o.dst st (updK o st K)
     | none => False
   | none => False
 | _ => False
def dsop (P : Program) (T : TT) (C : Cx) (o : Oper) (st : SS) (K : SS → Prop) : Prop :=
 bif dstOk C.N o.dst then
 (match dop T st (o.dst.getD 0) o.op with
 | some (c, none, x) => andc c (K (st.put o.dst x))
 | some (c, some m, x) => (match o.dst with
   | some d => bif st.has d then False else andc c (K ((st.mem d m).put (some d) x))
   | none => False)
 | none => dsopX P T o st K) else False
def dsopG (P : Program) (T : TT) (C : Cx) (all : List Oper) (o : Oper) (st : SS) (K : SS → Prop) : Prop := match o.guard with
 | none => dsop P T C o st K
 | some (j, want) => match gval all st j with
   | some (t, b) => match want with
     | true => br b (dsop P T C o (st.put (some t) (.o (.v (.bool true)))) K) (bif dstOk C.N o.dst then K ((st.put (some t) (.o (.v (.bool false)))).put o.dst (.o (.v undef))) else False)
     | false => br b (bif dstOk C.N o.dst then K ((st.put (some t) (.o (.v (.bool true)))).put o.dst (.o (.v undef))) else False) (dsop P T C o (st.put (some t) (.o (.v (.bool false)))) K)
   | none => bif gund all st j then (bif dstOk C.N o.dst then K (st.put o.dst (.o (.v undef))) else False) else False
def waitsT (ops : Array Oper) : Nat → Nat → Nat → Bool
 | 0, _, _ => false
 | f + 1, j, i => match ops[j]? with
   | some oj => oj.after.any (fun e => Region.binds .any e && (Nat.beq e.on i || waitsT ops f e.on i))
   | none => false
abbrev Late := List (Nat × Nat × List Nat)
def lateOf : Late → Nat → Option Nat
 | [], _ => none
 | (s, k, _) :: r, i => bif Nat.beq s i then some k else lateOf r i
def lateFree : Late → Nat → Nat → Bool
 | [], _, _ => false
 | (s, _, fr) :: r, j, i => bif Nat.beq s j then fr.any (Nat.beq i) else lateFree r j i
def storeBox (T : TT) (st : SS) (o : Oper) (κ : Nat) : Option ME := match o.op with
 | .store t x y => match o.dst, o.guard, lk t T, ev st x, ev st y, lk κ st.me with
   | none, none, some e, some (.o (.p k off)), some sv, some (.box cs ty) =>
     bif Nat.beq k κ && (Nat.beq sv.cells.length e.size && sv.cells.all oneB) && Nat.ble (off + e.size) cs.length then some (.box (putN off sv.cells cs) ty) else none
   | _, _, _, _, _, _ => none
 | _ => none
def opnds : Op → Option (List Operand)
 | .alloc _ => some []
 | .move x | .assign x | .box _ x | .load _ x | .unOp _ _ x | .convert _ _ x | .fieldAddr _ x _ | .field _ x _ | .extract x _ => some [x]
 | .pick c a b => some [c, a, b]
 | .build _ ps | .buildSlice _ _ ps => some (ps.toList.map (·.2))
 | .binOp _ _ a v _ | .indexAddr _ a v | .index _ a v => some [a, v]
 | .makeFunc _ first captured => some (first.toList ++ captured.toList)
 | .call ⟨.value f, args, _⟩ => some (f :: args.toList)
 | .call ⟨.builtin _, args, _⟩ => some args.toList
 | .slice _ x lo hi mx => some (x :: (lo.toList ++ hi.toList ++ mx.toList))
 | _ => none
def freeOf (st : SS) (o : Oper) (κ : Nat) : Bool := match opnds o.op with
 | some l => l.all fun y => match ev st y with
   | some sv => !sv.has κ
   | none => true
 | none => false
def lateOk (late : Late) (i : Nat) (st : SS) (o : Oper) : Bool := late.all fun e => !(e.2.2.any (Nat.beq i)) || freeOf st o e.2.1
def pairs : Nat → List Oper → List (Nat × Oper)
 | _, [] => []
 | k, o :: r => (k, o) :: pairs (k + 1) r
def isQ (late : Late) (m j : Nat) : Bool := Nat.blt j (m % 4294967296) && (!(Nat.beq (j + 1) (m / 4294967296 % 65536)) && (!(Nat.beq (j + 1) (m / 281474976710656)) && (lateOf late j).isNone))
def dops (P : Program) (T : TT) (C : Cx) (all : List Oper) (late : Late) (m : Nat) : List (Nat × Oper) → SS → (SS → Prop) → Prop
 | [], st, K => K st
 | (i, o) :: r, st, K => bif isQ late m i then (bif lateOk late i st o then dsopG P T C all o st (fun st' => dops P T C all late m r st' K) else False)
   else (match lateOf late i with
     | none => sopG P T C all o st (fun st' => dops P T C all late m r st' K)
     | some κ => match storeBox T st o κ with
       | some mm => dops P T C all late m r (st.mem κ mm) K
       | none => False)

def DEff (P : Program) (T : TT) (st : SS) (o : Oper) (x : SV) (m : Option ME) : Prop :=
 (∃ c, dop T st (o.dst.getD 0) o.op = some (c, m, x) ∧ (∀ p, c = some p → p) ∧ (m.isSome = true → o.dst.isSome = true ∧ st.has (o.dst.getD 0) = false)) ∨
 (m = none ∧ ∃ t y e A vs, o.op = .load t y ∧ lk t T = some e ∧ ev st y = some (.o (.v (.pointer A))) ∧ vs.length = e.size ∧ (isAggD e.desc = false → e.size = 1) ∧
   (∀ w, (∀ R ∈ st.re, R.φ w) → ∃ b o, A = some ⟨b, o, none⟩ ∧ ∀ j v, vs[j]? = some v → w.cell? ⟨b, o + j, none⟩ = some v) ∧ x = mkV (isAggD e.desc) vs) ∨
 (m = none ∧ ∃ t y e k off cs l, o.op = .load t y ∧ lk t T = some e ∧ ev st y = some (.o (.p k off)) ∧ rowOf st k = some cs ∧ 0 < e.size ∧ l.length = e.size ∧ (isAggD e.desc = false → e.size = 1) ∧ (∀ j x, l[j]? = some x → cs[off + j]? = some x) ∧
   x = mkV (isAggD e.desc) l) ∨
 (m = none ∧ ∃ f args ts l g l' r, o.op = .call ⟨.value f, args, ts⟩ ∧ evs st args.toList = some l ∧ callee (ev st f) l = some (g, l') ∧ Enters P g ∧ x = .o (.v r) ∧ CallV P g l' st (retsV r)) ∨
 (∃ t es n xs, m = some (.own t es n xs) ∧ o.dst.isSome = true ∧ st.has (o.dst.getD 0) = false ∧ ∃ f args ts l g l', o.op = .call ⟨.value f, args, ts⟩ ∧ evs st args.toList = some l ∧ callee (ev st f) l = some (g, l') ∧ Enters P g ∧ x = .o (.w (o.dst.getD 0)) ∧ CallV P g l' st (retsO t es n xs))

def GEff (P : Program) (T : TT) (all : List Oper) (st : SS) (o : Oper) (x : SV) (m : Option ME) : Prop := match o.guard with
 | none => DEff P T st o x m
 | some (j, want) => (∃ t b, gval all st j = some (t, b) ∧ ((b = want ∧ DEff P T st o x m) ∨ (b ≠ want ∧ x = .o (.v undef) ∧ m = none))) ∨ (gval all st j = none ∧ gund all st j = true ∧ x = .o (.v undef) ∧ m = none)

theorem dsop_inv {o : Oper} {K : SS → Prop} (h : dsop P T C o st K) : dstOk C.N o.dst = true ∧ ∃ x m, DEff P T st o x m ∧ K (st.upd o x m) := by
 unfold dsop at h
 cases hd : dstOk C.N o.dst with
 | false => rw [hd] at h; exact h.elim
 | true =>
   rw [hd] at h
   simp only [cond_true] at h
   refine ⟨rfl, ?_⟩
   split at h
   · rename_i c x hdop
     obtain ⟨hc, hk⟩ := andc_inv h
     exact ⟨x, none, .inl ⟨c, hdop, hc, by simp⟩, hk⟩
   · rename_i c mm x hdop
     split at h
     · rename_i d hdst
       cases hf : st.has d with
       | true => rw [hf] at h; exact h.elim
       | false =>
         rw [hf] at h
         obtain ⟨hc, hk⟩ := andc_inv h
         exact ⟨x, some mm, .inl ⟨c, hdop, hc, fun _ => by simp [hdst, hf]⟩, by simp only [SS.upd, hdst, Option.getD_some]; exact hk⟩
     · exact h.elim
   · unfold dsopX at h
     split at h
     · rename_i t y hop
       unfold sopLoad at h
       split at h
       · rename_i e A he hy
         obtain ⟨vs, h1, h2, h3, h4⟩ := h.out
         exact ⟨_, none, .inr (.inl ⟨rfl, t, y, e, A, vs, hop, he, hy, h1, h2, h3, rfl⟩), h4⟩
       · rename_i e k off he hy
         split at h
         · rename_i cs hr
           obtain ⟨h0, l, h1, h2, h3, hk⟩ := h
           exact ⟨_, none, .inr (.inr (.inl ⟨rfl, t, y, e, k, off, cs, l, hop, he, hy, hr, h0, h1, h2, h3, rfl⟩)), hk⟩
         · exact h.elim
       · exact h.elim
     · rename_i f args ts hop
       split at h
       · rename_i l hl
         split at h
         · rename_i g l' hcal
           rcases h.out with ⟨r, hr, hk⟩ | ⟨t, es, n, xs, hr, hk⟩
           · exact ⟨_, none, .inr (.inr (.inr (.inl ⟨rfl, f, args, ts, l, g, l', r, hop, hl, hcal, h.enters, rfl, hr⟩))), hk⟩
           · unfold updK at hk
             split at hk
             · rename_i hcontra; cases hcontra
             · rename_i mm hmm
               cases hmm
               split at hk
               · rename_i d hdst
                 cases hf : st.has d with
                 | true => rw [hf] at hk; exact hk.elim
                 | false =>
                   rw [hf] at hk
                   exact ⟨_, _, .inr (.inr (.inr (.inr ⟨t, es, n, xs, rfl, by rw [hdst]; rfl, by rw [hdst]; exact hf, f, args, ts, l, g, l', hop, hl, hcal, h.enters, rfl, hr⟩))), by simp only [SS.upd, hdst, Option.getD_some] at hk ⊢; exact hk⟩
               · exact hk.elim
         · exact h.elim
       · exact h.elim
     · exact h.elim

theorem MemOk.act (h : MemOk C E st.me st.re w) : SRE C E { st with tm := [] } { tmps := Array.replicate C.N undef, defers := [] } w :=
 ⟨by simp, ⟨[], rfl, List.nodup_nil, by simp⟩, fun _ _ hh => by simp [lk] at hh, h⟩
theorem MemOk.own (h : MemOk C E st.me st.re w) {d : Nat} (hd : dstOk C.N (some d) = true) (hf : st.has d = false) {w' : World} (hb : Bel w.heap.size w w') {v : Value} {t es n : Nat} {xs : List Value} (hown : w'.ownsRow w.heap.size t es v n xs) :
   MemOk C (sliceEnv E d v) ((d, .own t es n xs) :: st.me) st.re w' := by
 have hblk : ∀ b, v.ownBlock = some b → w.heap.size ≤ b := fun b hb => by
   obtain ⟨_, ⟨rfl, _⟩ | ⟨g, cap, cur, rfl, h3, _⟩⟩ := hown
   · cases hb
   · cases hb; exact h3
 have hown0 : w'.ownsRow 0 t es v n xs := by
   obtain ⟨h1, h2 | ⟨g, cap, cur, h2, _, h4⟩⟩ := hown
   · exact ⟨h1, .inl h2⟩
   · exact ⟨h1, .inr ⟨g, cap, cur, h2, Nat.zero_le _, h4⟩⟩
 have hfe : ({ st with tm := [] } : SS).has d = false := by
   unfold SS.has at hf ⊢
   rw [Bool.or_eq_false_iff] at hf
   simp only [List.any_nil, Bool.false_or]
   exact hf.2
 exact ((MemOk.act h).own hd hfe (kk := none) (row := none) hb.drawn ⟨hb.os, hb.tape, hb.output, hb.size, fun k hk _ => hb.block k hk⟩ (fun b hb => by cases hb) hown0 (fun b hb => .inl (hblk b hb))).mem

theorem DEff.sound (hT : TTgood P T) (h : SRE C E st a w) {o : Oper} {x : SV} {m : Option ME} (hd : dstOk C.N o.dst = true) (he : DEff P T st o x m) {next : Act → World → Prop} {Q : Exit → Act → World → Prop}
   (hK : ∀ a' w', SR C (st.upd o x m) a' w' → next a' w') : o.wpIn (FW ro) n P a w next Q := by
 have hs : sop P T C o st (fun s => s = st.upd o x m) := by
   unfold sop
   rw [hd]
   simp only [cond_true]
   have nodop : ∀ {op : Op}, o.op = op → (∀ d, dop T st d op = none) → dop T st (o.dst.getD 0) o.op = none := fun h1 h2 => by rw [h1]; exact h2 _
   rcases he with ⟨c, hdop, hc, hm⟩ | ⟨rfl, t, y, e, A, vs, hop, ht, hy, h1, h2, h3, rfl⟩ | ⟨rfl, t, y, e, k, off, cs, l, hop, ht, hy, hme, h0, h1, h2, h3, rfl⟩ | ⟨rfl, f, args, ts, l, g, l', r, hop, hl, hcal, hE, rfl, hr⟩ | ⟨t, es, nn, xs, rfl, hds, hfr, f, args, ts, l, g, l', hop, hl, hcal, hE, rfl, hr⟩
   · rw [hdop]
     have hand : ∀ {K : Prop}, K → andc c K := fun hk => by
       cases c with
       | none => exact hk
       | some p => exact ⟨hc p rfl, hk⟩
     cases m with
     | none => exact hand rfl
     | some mm =>
       obtain ⟨d, hdst⟩ := Option.isSome_iff_exists.1 (hm rfl).1
       simp only [hdst]
       exact hand (by simp [SS.upd, hdst])
   · rw [nodop hop (fun d => by simp [dop, ht, hy])]
     simp only [sopX, hop, sopLoad, ht, hy]
     exact ⟨vs, h1, h2, h3, rfl⟩
   · have hnb : ∀ d, dop T st d (.load t y) = none := fun d => by
       unfold rowOf at hme
       split at hme
       · rename_i hm; simp [dop, ht, hy, hm]
       · rename_i hm; simp [dop, ht, hy, hm]
       · cases hme
     rw [nodop hop hnb]
     simp only [sopX, hop, sopLoad, ht, hy, hme]
     exact ⟨h0, l, h1, h2, h3, rfl⟩
   · rw [nodop hop (fun d => by simp [dop])]
     simp only [sopX, hop, sopCall, hl, hcal]
     refine ⟨hE, fun E1 w1 hmem => (hr E1 w1 (fun k mm _ hk => hmem.ent k mm hk) (fun R hR => (hmem.res R hR).2.1)).mono ?_⟩
     rintro e w' ⟨rfl, hb⟩
     exact ⟨E1, st, .o (.v r), rfl, hmem.world (st := st) hb, KD.below hb, fun i sv hi => ⟨sv, hi, rfl⟩, rfl⟩
   · rw [nodop hop (fun d => by simp [dop])]
     simp only [sopX, hop, sopCall, hl, hcal]
     obtain ⟨d, hdst⟩ := Option.isSome_iff_exists.1 hds
     rw [hdst] at hfr hd
     simp only [Option.getD_some] at hfr
     refine ⟨hE, fun E1 w1 hmem => (hr E1 w1 (fun k mm _ hk => hmem.ent k mm hk) (fun R hR => (hmem.res R hR).2.1)).mono ?_⟩
     rintro e w' ⟨v, rfl, hown, hb⟩
     obtain ⟨hbut, hreal, _⟩ := own_real (E := E1) (d := d) hown
     refine ⟨sliceEnv E1 d v, st.mem d (.own t es nn xs), .o (.w d), by rw [show (SV.o (.w d)).real (sliceEnv E1 d v) = v from hreal], MemOk.own (st := st) hmem hd hfr hb hown, KD.below hb, fun i sv hi => ⟨sv, hi, SV.real_but hbut (SS.has_tm hfr hi)⟩, ?_⟩
     simp only [SS.upd, hdst, Option.getD_some]
 exact sop_sound hT h hs (fun st' a' w' hk hr => by subst hk; exact hK a' w' hr)

end
end Go.Sx
end
section
/- A symbolic executor over loaded Go code: a region that draws its order is walked once, in the order of the text. -/
namespace Go.Sx
open Go Go.RowKit

structure Eqv (st st' : SS) : Prop where
 tm : ∀ i, lk i st'.tm = lk i st.tm
 me : ∀ k, lk k st'.me = lk k st.me
 re : st'.re = st.re
 has : ∀ k, st'.has k = st.has k

theorem Eqv.refl (st : SS) : Eqv st st := ⟨fun _ => rfl, fun _ => rfl, rfl, fun _ => rfl⟩
theorem Eqv.symm {st st' : SS} (h : Eqv st st') : Eqv st' st := ⟨fun i => (h.tm i).symm, fun k => (h.me k).symm, h.re.symm, fun k => (h.has k).symm⟩
theorem Eqv.trans {a b c : SS} (h : Eqv a b) (k : Eqv b c) : Eqv a c := ⟨fun i => (k.tm i).trans (h.tm i), fun i => (k.me i).trans (h.me i), k.re.trans h.re, fun i => (k.has i).trans (h.has i)⟩
theorem Eqv.ev {st st' : SS} (h : Eqv st st') (x : Operand) : Sx.ev st' x = Sx.ev st x := by cases x <;> simp only [Sx.ev, h.tm]
theorem Eqv.same {st st' : SS} (h : Eqv st st') (xs : List Operand) : Same st st' xs := ⟨fun x _ => h.ev x, fun _ _ _ k _ _ => h.me k⟩
theorem Eqv.gund {st st' : SS} (h : Eqv st st') (all : List Oper) (j : Nat) : Sx.gund all st' j = Sx.gund all st j := by unfold Sx.gund; simp only [h.tm]
theorem Eqv.gval {st st' : SS} (h : Eqv st st') (all : List Oper) (j : Nat) : Sx.gval all st' j = Sx.gval all st j := by unfold Sx.gval; simp only [h.tm]

theorem SRE.eqv {C : Cx} {E : Env} {st st' : SS} {a : Act} {w : World} (h : SRE C E st a w) (e : Eqv st st') : SRE C E st' a w := by
 refine ⟨h.size, h.defers, fun i sv hi => h.tm i sv (by rw [← e.tm]; exact hi), ⟨fun k m hk => h.mem.ent k m (by rw [← e.me]; exact hk), fun k m b hk => h.mem.ge k m b (by rw [← e.me]; exact hk),
   fun k k' m m' b hk hk' => h.mem.inj k k' m m' b (by rw [← e.me]; exact hk) (by rw [← e.me]; exact hk'), fun R hR => ?_, h.mem.ext, fun j b m hX hj => h.mem.rig j b m hX (by rw [← e.me]; exact hj)⟩⟩
 obtain ⟨r1, r2, r3⟩ := h.mem.res R (by rw [← e.re]; exact hR)
 exact ⟨r1, r2, fun b hb => ⟨(r3 b hb).1, fun k m hk => (r3 b hb).2 k m (by rw [← e.me]; exact hk)⟩⟩
theorem SR.eqv {C : Cx} {st st' : SS} {a : Act} {w : World} (h : SR C st a w) (e : Eqv st st') : SR C st' a w := let ⟨E, h⟩ := h; ⟨E, h.eqv e⟩

theorem has_put (st : SS) (d : Option Tmp) (x : SV) (k : Nat) : (st.put d x).has k = ((d.isSome && x.has k) || st.has k) := by
 cases d <;> simp [SS.put, SS.has, Bool.or_assoc]
theorem has_mem (st : SS) (d : Nat) (m : ME) (k : Nat) : (st.mem d m).has k = ((Nat.beq d k || m.has k) || st.has k) := by
 simp only [SS.mem, SS.has, List.any_cons]
 cases st.tm.any (fun e => e.2.has k) <;> simp

theorem Eqv.put {st st' : SS} (h : Eqv st st') (d : Option Tmp) (x : SV) : Eqv (st.put d x) (st'.put d x) := by
 cases d with
 | none => exact h
 | some i => exact ⟨fun j => by simp only [SS.put, lk_cons, h.tm], h.me, h.re, fun k => by rw [has_put, has_put, h.has]⟩
theorem Eqv.mem {st st' : SS} (h : Eqv st st') (d : Nat) (m : ME) : Eqv (st.mem d m) (st'.mem d m) :=
 ⟨h.tm, fun j => by simp only [SS.mem, lk_cons, h.me], h.re, fun k => by rw [has_mem, has_mem, h.has]⟩
theorem Eqv.upd {st st' : SS} (h : Eqv st st') (o : Oper) (x : SV) (m : Option ME) : Eqv (st.upd o x m) (st'.upd o x m) := by
 cases m with
 | none => exact h.put _ _
 | some m => exact (h.mem _ _).put _ _
theorem Eqv.redo {st : SS} {t : Nat} {b : Bool} (hl : lk t st.tm = some (.o (.v (.bool b)))) : Eqv st (st.put (some t) (.o (.v (.bool b)))) :=
 ⟨fun i => by simp only [SS.put, lk_cons]; split; (rename_i e; subst e; exact hl.symm); rfl, fun _ => rfl, rfl, fun k => by rw [has_put]; rfl⟩

theorem has_upd {st : SS} {o : Oper} {x : SV} {m : Option ME} {k : Nat} (hx : o.dst.isSome = true → x.has k = false) (hm : ∀ y, m = some y → y.has k = false) (hd : m.isSome = true → o.dst.getD 0 ≠ k) : (st.upd o x m).has k = st.has k := by
 cases m with
 | none =>
   simp only [SS.upd, has_put]
   cases h : o.dst.isSome with
   | false => simp
   | true => simp [hx h]
 | some m =>
   simp only [SS.upd, has_put, has_mem, hm m rfl, beq_false.2 (hd rfl)]
   cases h : o.dst.isSome with
   | false => simp
   | true => simp [hx h]

section
variable {P : Program} {T : TT} {C : Cx}

theorem callee_has {st : SS} {f : Operand} {args : List Operand} {l l' : List SV} {g : FuncId} (hl : evs st args = some l) (hc : callee (ev st f) l = some (g, l')) {k : Nat} (hk : l'.any (SV.has k) = true) :
   ∃ y ∈ f :: args, ∃ sv, ev st y = some sv ∧ sv.has k = true := by
 have hargs : ∀ {args : List Operand} {l : List SV}, evs st args = some l → l.any (SV.has k) = true → ∃ y ∈ args, ∃ sv, ev st y = some sv ∧ sv.has k = true := by
   intro args
   induction args with
   | nil => intro l hl hk; simp only [evs, Option.some.injEq] at hl; subst hl; simp at hk
   | cons y r ih =>
     intro l hl hk
     simp only [evs] at hl
     split at hl
     · rename_i sv l0 hy hr
       cases hl
       simp only [List.any_cons, Bool.or_eq_true] at hk
       rcases hk with hk | hk
       · exact ⟨y, by simp, sv, hy, hk⟩
       · obtain ⟨z, hz, h⟩ := ih hr hk; exact ⟨z, List.mem_cons_of_mem _ hz, h⟩
     · cases hl
 have hv : ∀ vs : List Value, (vsv vs).any (SV.has k) = false := by
   intro vs; induction vs with
   | nil => rfl
   | cons v r ih => simp [vsv, SV.has, AV.has, ih]
 have hcv : ∀ cs : List CP, (csv cs).any (SV.has k) = cs.any (CP.has k) := by
   intro cs; induction cs with
   | nil => rfl
   | cons c r ih => cases c <;> simp [csv, SV.has, AV.has, CP.has, ih]
 unfold callee at hc
 split at hc
 · rename_i g' first caps hf
   cases hc
   rw [app_eq, app_eq, List.any_append, List.any_append, hv, hv] at hk
   simp only [Bool.false_or, Bool.or_false] at hk
   obtain ⟨y, hy, h⟩ := hargs hl hk
   exact ⟨y, List.mem_cons_of_mem _ hy, h⟩
 · rename_i g' caps hf
   cases hc
   rw [app_eq, List.any_append, hcv] at hk
   simp only [Bool.or_eq_true] at hk
   rcases hk with hk | hk
   · obtain ⟨y, hy, h⟩ := hargs hl hk; exact ⟨y, List.mem_cons_of_mem _ hy, h⟩
   · exact ⟨f, by simp, _, hf, hk⟩
 · cases hc

theorem AV.has_big : ∀ x : AV, ∃ B, ∀ k, B ≤ k → x.has k = false
 | .v _ => ⟨0, fun _ _ => rfl⟩
 | .p j _ => ⟨j + 1, fun k h => beq_false.2 (by omega)⟩
 | .s j _ _ _ => ⟨j + 1, fun k h => beq_false.2 (by omega)⟩
 | .w j => ⟨j + 1, fun k h => beq_false.2 (by omega)⟩
 | .tu xs => by
   have : ∀ l : List TP, ∃ B, ∀ k, B ≤ k → l.any (TP.has k) = false := by
     intro l
     induction l with
     | nil => exact ⟨0, fun _ _ => rfl⟩
     | cons c r ih =>
       obtain ⟨B, hB⟩ := ih
       cases c with
       | e x => exact ⟨B, fun k h => by simp [TP.has, hB k h]⟩
       | p j _ => exact ⟨max B (j + 1), fun k h => by simp only [List.any_cons, hB k (by omega), TP.has, Bool.or_false]; exact beq_false.2 (by omega)⟩
       | s j _ _ _ => exact ⟨max B (j + 1), fun k h => by simp only [List.any_cons, hB k (by omega), TP.has, Bool.or_false]; exact beq_false.2 (by omega)⟩
       | w j => exact ⟨max B (j + 1), fun k h => by simp only [List.any_cons, hB k (by omega), TP.has, Bool.or_false]; exact beq_false.2 (by omega)⟩
   exact this xs
 | .clo _ caps => by
   have : ∀ l : List CP, ∃ B, ∀ k, B ≤ k → l.any (CP.has k) = false := by
     intro l
     induction l with
     | nil => exact ⟨0, fun _ _ => rfl⟩
     | cons c r ih =>
       obtain ⟨B, hB⟩ := ih
       cases c with
       | e x => exact ⟨B, fun k h => by simp [CP.has, hB k h]⟩
       | l j => exact ⟨max B (j + 1), fun k h => by simp only [List.any_cons, hB k (by omega), CP.has, Bool.or_false]; exact beq_false.2 (by omega)⟩
   exact this caps
theorem any_big {α : Type} (f : Nat → α → Bool) (hf : ∀ x, ∃ B, ∀ k, B ≤ k → f k x = false) : ∀ l : List α, ∃ B, ∀ k, B ≤ k → l.any (f k) = false
 | [] => ⟨0, fun _ _ => rfl⟩
 | x :: r => by
   obtain ⟨B, hB⟩ := any_big f hf r
   obtain ⟨B', hB'⟩ := hf x
   exact ⟨max B B', fun k h => by simp only [List.any_cons, hB k (by omega), hB' k (by omega), Bool.or_false]⟩
theorem SV.has_big : ∀ x : SV, ∃ B, ∀ k, B ≤ k → x.has k = false
 | .o x => x.has_big
 | .a xs => any_big AV.has AV.has_big xs
theorem ME.has_big : ∀ x : ME, ∃ B, ∀ k, B ≤ k → x.has k = false
 | .box cs _ => any_big AV.has AV.has_big cs
 | .sym _ _ => ⟨0, fun _ _ => rfl⟩
 | .own _ _ _ _ => ⟨0, fun _ _ => rfl⟩
theorem SS.has_big (st : SS) : ∃ B, ∀ k, B ≤ k → st.has k = false := by
 obtain ⟨B, hB⟩ := any_big (fun k (e : Nat × SV) => e.2.has k) (fun e => e.2.has_big) st.tm
 obtain ⟨B', hB'⟩ := any_big (fun k (e : Nat × ME) => Nat.beq e.1 k || e.2.has k) (fun e => by
   obtain ⟨B, hB⟩ := e.2.has_big
   exact ⟨max B (e.1 + 1), fun k h => by simp only [hB k (by omega), beq_false.2 (show e.1 ≠ k by omega), Bool.or_false]⟩) st.me
 exact ⟨max B B', fun k h => by simp only [SS.has, hB k (by omega), hB' k (by omega), Bool.or_false]⟩
theorem fresh_name (st st' : SS) : ∃ z, st.has z = false ∧ st'.has z = false := by
 obtain ⟨B, hB⟩ := st.has_big
 obtain ⟨B', hB'⟩ := st'.has_big
 exact ⟨max B B', hB _ (by omega), hB' _ (by omega)⟩

theorem dop_name {st : SS} {d d' : Nat} {op : Op} {x : SV} {c : Option Prop} (h : dop T st d op = some (c, none, x)) : dop T st d' op = some (c, none, x) := by
 have hdn : ∀ {d m0 y}, dn st d m0 y = some (c, none, x) → False := fun h => by obtain ⟨_, h2, _⟩ := dn_inv h; cases h2
 cases op
 case alloc t =>
   simp only [dop] at h
   split at h
   · exact (hdn h).elim
   · cases h
 case box t y =>
   simp only [dop] at h
   split at h
   · exact (hdn h).elim
   · cases h
 case buildSlice t n ps =>
   simp only [dop] at h
   split at h
   · split at h
     · split at h
       · rename_i ee _
         cases hb : (Nat.ble (n * ee.size) 1000 && Nat.beq ee.zero.cells.toList.length ee.size) with
         | false => rw [hb] at h; cases h
         | true =>
           rw [hb] at h
           simp only [cond_true] at h
           split at h
           · exact (hdn h).elim
           · cases h
       · cases h
     · cases h
   · cases h
 case makeFunc fn first captured => cases fn <;> exact h
 case call c => obtain ⟨callee, args, ts⟩ := c; cases callee <;> exact h
 all_goals exact h

theorem call_congr {st st' : SS} {f : Operand} {args : Array Operand} {ts : Array TypeId} {l l' : List SV} {g : FuncId} (hs : Same st st' (Op.call ⟨.value f, args, ts⟩).operands.toList) (hl : evs st args.toList = some l) (hcal : callee (ev st f) l = some (g, l')) :
   evs st' args.toList = some l ∧ callee (ev st' f) l = some (g, l') := by
 have hs' : Same st st' (f :: args.toList) := hs.mono (fun y hy => by simpa [Op.operands, Call.operands] using hy)
 have hs'' : Same st st' args.toList := hs'.mono (fun y hy => List.mem_cons_of_mem _ hy)
 exact ⟨(evs_congr hs'').trans hl, by rw [hs'.ev f (by simp)]; exact hcal⟩
theorem CallV.congr {st st' : SS} {f : Operand} {args : Array Operand} {ts : Array TypeId} {l l' : List SV} {g : FuncId} {R : World → Ending → World → Prop} (hr : CallV P g l' st R) (hs : Same st st' (Op.call ⟨.value f, args, ts⟩).operands.toList)
   (hl : evs st args.toList = some l) (hcal : callee (ev st f) l = some (g, l')) (hre : st'.re = st.re) : CallV P g l' st' R := by
 have hs' : Same st st' (f :: args.toList) := hs.mono (fun y hy => by simpa [Op.operands, Call.operands] using hy)
 refine fun E w hmem hR => hr E w (fun k mm hk hkm => hmem k mm hk ?_) (by rw [← hre]; exact hR)
 obtain ⟨y, hy, sv, hsv, hhas⟩ := callee_has hl hcal hk
 rw [hs'.me y hy sv k hsv hhas]; exact hkm

theorem DEff.congr {st st' : SS} {o : Oper} {x : SV} {m : Option ME} (hs : Same st st' o.op.operands.toList) (hre : st'.re = st.re) (hd : m.isSome = true → st'.has (o.dst.getD 0) = st.has (o.dst.getD 0)) (h : DEff P T st o x m) : DEff P T st' o x m := by
 rcases h with ⟨c, hdop, hc, hm⟩ | ⟨rfl, t, y, e, A, vs, hop, ht, hy, h1, h2, h3, rfl⟩ | ⟨rfl, t, y, e, k, off, cs, l, hop, ht, hy, hme, h0, h1, h2, h3, rfl⟩ | ⟨rfl, f, args, ts, l, g, l', r, hop, hl, hcal, hE, rfl, hr⟩ | ⟨t, es, nn, xs, rfl, hds, hfr, f, args, ts, l, g, l', hop, hl, hcal, hE, rfl, hr⟩
 · cases m with
   | some mm => exact .inl ⟨c, (dop_congr hs (hd rfl)).trans hdop, hc, fun h => ⟨(hm h).1, (hd rfl).trans (hm h).2⟩⟩
   | none =>
     obtain ⟨z, hz1, hz2⟩ : ∃ z, st.has z = false ∧ st'.has z = false := fresh_name st st'
     exact .inl ⟨c, dop_name ((dop_congr hs (hz2.trans hz1.symm)).trans (dop_name (d' := z) hdop)), hc, fun h => by cases h⟩
 · rw [hop] at hs
   exact .inr (.inl ⟨rfl, t, y, e, A, vs, hop, ht, (hs.ev y (by simp [Op.operands])).trans hy, h1, h2, by rw [hre]; exact h3, rfl⟩)
 · rw [hop] at hs
   have hrow : rowOf st' k = some cs := by
     have := hs.me y (by simp [Op.operands]) _ k hy (has_self_p _ _)
     unfold rowOf at hme ⊢
     rw [this]; exact hme
   exact .inr (.inr (.inl ⟨rfl, t, y, e, k, off, cs, l, hop, ht, (hs.ev y (by simp [Op.operands])).trans hy, hrow, h0, h1, h2, h3, rfl⟩))
 · rw [hop] at hs
   exact .inr (.inr (.inr (.inl ⟨rfl, f, args, ts, l, g, l', r, hop, (call_congr hs hl hcal).1, (call_congr hs hl hcal).2, hE, rfl, hr.congr hs hl hcal hre⟩)))
 · rw [hop] at hs
   exact .inr (.inr (.inr (.inr ⟨t, es, nn, xs, rfl, hds, (hd rfl).trans hfr, f, args, ts, l, g, l', hop, (call_congr hs hl hcal).1, (call_congr hs hl hcal).2, hE, rfl, hr.congr hs hl hcal hre⟩)))

theorem mkV_has {agg : Bool} {vs : List Value} (k : Nat) : (mkV agg vs).has k = false := by
 unfold mkV
 cases agg
 · simp only [cond_false]; split <;> rfl
 · rfl
theorem DEff.has {st : SS} {o : Oper} {x : SV} {m : Option ME} (h : DEff P T st o x m) {k : Nat} (hk : st.has k = false) (hkd : m.isSome = true → k ≠ o.dst.getD 0) : NoName k m x := by
 rcases h with ⟨c, hdop, hc, hm⟩ | ⟨rfl, t, y, e, A, vs, hop, ht, hy, h1, h2, h3, rfl⟩ | ⟨rfl, t, y, e, j, off, cs, l, hop, ht, hy, hme, h0, h1, h2, h3, rfl⟩ | ⟨rfl, f, args, ts, l, g, l', r, hop, hl, hcal, hE, rfl, hr⟩ | ⟨t, es, nn, xs, rfl, hds, hfr, f, args, ts, l, g, l', hop, hl, hcal, hE, rfl, hr⟩
 · cases m with
   | some mm => exact dop_has hdop hk (hkd rfl)
   | none => exact dop_has (dop_name (d' := k + 1) hdop) hk (by omega)
 · exact ⟨mkV_has k, fun _ h => by cases h⟩
 · exact ⟨mkV_has k, fun _ h => by cases h⟩
 · exact ⟨rfl, fun _ h => by cases h⟩
 · exact ⟨beq_false.2 (fun e => hkd rfl e.symm), fun y h => by cases h; rfl⟩

theorem GEff.has {all : List Oper} {st : SS} {o : Oper} {x : SV} {m : Option ME} (h : GEff P T all st o x m) {k : Nat} (hk : st.has k = false) (hkd : m.isSome = true → k ≠ o.dst.getD 0) : NoName k m x := by
 unfold GEff at h
 split at h
 · exact h.has hk hkd
 · obtain ⟨t, b, _, ⟨_, h⟩ | ⟨_, rfl, rfl⟩⟩ | ⟨_, _, rfl, rfl⟩ := h
   · exact h.has hk hkd
   · exact ⟨rfl, fun _ h => by cases h⟩
   · exact ⟨rfl, fun _ h => by cases h⟩
theorem DEff.dst {st : SS} {o : Oper} {x : SV} {m : Option ME} (h : DEff P T st o x m) (hm : m.isSome = true) : o.dst.isSome = true := by
 rcases h with ⟨c, hdop, hc, hd⟩ | ⟨rfl, _⟩ | ⟨rfl, _⟩ | ⟨rfl, _⟩ | ⟨t, es, nn, xs, rfl, hds, hfr, _⟩
 · exact (hd hm).1
 · cases hm
 · cases hm
 · cases hm
 · exact hds
theorem DEff.fresh {st : SS} {o : Oper} {x : SV} {m : Option ME} (h : DEff P T st o x m) (hm : m.isSome = true) : st.has (o.dst.getD 0) = false := by
 rcases h with ⟨c, hdop, hc, hd⟩ | ⟨rfl, _⟩ | ⟨rfl, _⟩ | ⟨rfl, _⟩ | ⟨t, es, nn, xs, rfl, hds, hfr, _⟩
 · exact (hd hm).2
 · cases hm
 · cases hm
 · cases hm
 · exact hfr

theorem gval_mem {ops : Array Oper} {st : SS} {j t : Nat} {b : Bool} (hg : gval ops.toList st j = some (t, b)) : (ops[j]?).bind (·.dst) = some t ∧ lk t st.tm = some (.o (.v (.bool b))) := by
 unfold gval at hg
 split at hg
 · rename_i oj hj
   split at hg
   · rename_i t' hd
     split at hg
     · rename_i b' hl
       cases hg
       rw [nth_eq, Array.getElem?_toList] at hj
       exact ⟨by simp [hj, hd], hl⟩
     · cases hg
   · cases hg
 · cases hg

theorem GEff.eqv {all : List Oper} {st st' : SS} {o : Oper} {x : SV} {m : Option ME} (h : GEff P T all st o x m) (e : Eqv st st') : GEff P T all st' o x m := by
 unfold GEff at *
 split at h
 · exact h.congr (e.same _) e.re (fun _ => e.has _)
 · obtain ⟨t, b, hg, h⟩ | ⟨h0, h1, h2⟩ := h
   · exact .inl ⟨t, b, (e.gval _ _).trans hg, h.imp (fun ⟨h1, h2⟩ => ⟨h1, h2.congr (e.same _) e.re (fun _ => e.has _)⟩) id⟩
   · exact .inr ⟨(e.gval _ _).trans h0, (e.gund _ _).trans h1, h2⟩

theorem same_upd {ops : Array Oper} {st : SS} {oi oj : Oper} {x : SV} {m : Option ME} (hap : ∀ d, oi.dst = some d → d ∉ oj.looksAt ops) (hfr : m.isSome = true → st.has (oi.dst.getD 0) = false) :
   Same st (st.upd oi x m) oj.op.operands.toList := by
 have hlk : ∀ t : Nat, Operand.tmp t ∈ oj.op.operands.toList → oi.dst ≠ some t := by
   intro t ht hd
   refine hap t hd ?_
   unfold Oper.looksAt
   exact List.mem_append_left _ (List.mem_filterMap.2 ⟨.tmp t, ht, rfl⟩)
 have htm : ∀ t : Nat, oi.dst ≠ some t → lk t (st.upd oi x m).tm = lk t st.tm := by
   intro t ht
   cases m <;> cases hd : oi.dst <;> simp only [SS.upd, SS.put, SS.mem, hd]
   · rw [lk_cons, if_neg (fun e => ht (by rw [hd, e]))]
   · rw [lk_cons, if_neg (fun e => ht (by rw [hd, e]))]
 refine ⟨fun y hy => ?_, fun y hy sv k hsv hk => ?_⟩
 · cases y with
   | tmp t => exact htm t (hlk t hy)
   | _ => rfl
 · cases m with
   | none => cases hd : oi.dst <;> simp [SS.upd, SS.put, hd]
   | some mm =>
     have hne : k ≠ oi.dst.getD 0 := by
       intro e
       have := ev_has (hfr rfl) hsv
       rw [← e, hk] at this; cases this
     cases hd : oi.dst <;> simp only [SS.upd, SS.put, SS.mem, hd, lk_cons]
     · rw [if_neg (by rw [hd] at hne; exact hne)]
     · rw [if_neg (by rw [hd] at hne; exact hne)]

theorem GEff.fresh {all : List Oper} {st : SS} {o : Oper} {x : SV} {m : Option ME} (h : GEff P T all st o x m) (hm : m.isSome = true) : o.dst.isSome = true ∧ st.has (o.dst.getD 0) = false := by
 unfold GEff at h
 split at h
 · exact ⟨h.dst hm, h.fresh hm⟩
 · obtain ⟨t, b, _, ⟨_, h⟩ | ⟨_, rfl, rfl⟩⟩ | ⟨_, _, rfl, rfl⟩ := h
   · exact ⟨h.dst hm, h.fresh hm⟩
   · cases hm
   · cases hm

theorem GEff.upd_iff {ops : Array Oper} {st : SS} {oi oj : Oper} {x y : SV} {m q : Option ME} (hap : ∀ d, oi.dst = some d → d ∉ oj.looksAt ops) (hne : ∀ d, oi.dst = some d → oj.dst ≠ some d)
   (hi : GEff P T ops.toList st oi x m) : GEff P T ops.toList (st.upd oi x m) oj y q ↔ GEff P T ops.toList st oj y q := by
 have hfr := fun hm => (hi.fresh hm).2
 have hs := same_upd (st := st) (x := x) hap hfr
 have hre : (st.upd oi x m).re = st.re := by cases m <;> cases hd : oi.dst <;> simp [SS.upd, SS.put, SS.mem, hd]
 have hs' : Same (st.upd oi x m) st oj.op.operands.toList := by
   refine ⟨fun z hz => (hs.ev z hz).symm, fun z hz sv k hsv hk => (hs.me z hz sv k ((hs.ev z hz).symm.trans hsv) hk).symm⟩
 have hhas : oj.dst.isSome = true → (st.upd oi x m).has (oj.dst.getD 0) = st.has (oj.dst.getD 0) := by
   intro hj
   obtain ⟨dj, hdj⟩ := Option.isSome_iff_exists.1 hj
   rw [hdj]
   simp only [Option.getD_some]
   have hdne : m.isSome = true → oi.dst.getD 0 ≠ dj := by
     intro hm e
     obtain ⟨di, hdi⟩ := Option.isSome_iff_exists.1 (hi.fresh hm).1
     rw [hdi] at e
     exact hne di hdi (by rw [hdj, ← e]; rfl)
   cases hst : st.has dj with
   | false =>
     have hn := hi.has hst (fun hm e => hdne hm e.symm)
     rw [has_upd (fun _ => hn.1) hn.2 hdne, hst]
   | true => cases m <;> simp [SS.upd, has_put, has_mem, hst]
 have hgv : ∀ (g : Nat) (want : Bool), oj.guard = some (g, want) → gval ops.toList (st.upd oi x m) g = gval ops.toList st g ∧ gund ops.toList (st.upd oi x m) g = gund ops.toList st g := by
   intro g want hg
   have hlk : ∀ t : Nat, (ops[g]?).bind (·.dst) = some t → lk t (st.upd oi x m).tm = lk t st.tm := by
     intro t ht
     have : oi.dst ≠ some t := fun hd => hap t hd (by unfold Oper.looksAt; simp [hg, ht])
     cases m <;> cases hd : oi.dst <;> simp only [SS.upd, SS.put, SS.mem, hd]
     · rw [lk_cons, if_neg (fun e => this (by rw [hd, e]))]
     · rw [lk_cons, if_neg (fun e => this (by rw [hd, e]))]
   unfold gval gund
   rw [nth_eq, Array.getElem?_toList]
   cases hg2 : ops[g]? with
   | none => exact ⟨rfl, rfl⟩
   | some og =>
     simp only
     cases hd2 : og.dst with
     | none => exact ⟨rfl, rfl⟩
     | some t => simp only; rw [hlk t (by simp [hg2, hd2])]; exact ⟨rfl, rfl⟩
 have hD : DEff P T (st.upd oi x m) oj y q ↔ DEff P T st oj y q :=
   ⟨fun h => h.congr hs' hre.symm (fun hq => (hhas (h.dst hq)).symm), fun h => h.congr hs hre (fun hq => hhas (h.dst hq))⟩
 unfold GEff
 cases hg : oj.guard with
 | none => exact hD
 | some p =>
   obtain ⟨g, want⟩ := p
   simp only [(hgv g want hg).1, (hgv g want hg).2, hD]

theorem upd_comm {st : SS} {oi oj : Oper} {x y : SV} {m q : Option ME} (hne : ∀ d, oi.dst = some d → oj.dst ≠ some d) (hm : m.isSome = true → oi.dst.isSome = true) (hq : q.isSome = true → oj.dst.isSome = true) :
   Eqv ((st.upd oi x m).upd oj y q) ((st.upd oj y q).upd oi x m) := by
 have hre : ∀ (st : SS) (o : Oper) (x : SV) (m : Option ME), (st.upd o x m).re = st.re := fun st o x m => by cases m <;> cases hd : o.dst <;> simp [SS.upd, SS.put, SS.mem, hd]
 have htm : ∀ (st : SS) (o : Oper) (x : SV) (m : Option ME) (k : Nat), lk k (st.upd o x m).tm = if o.dst = some k then some x else lk k st.tm := fun st o x m k => by
   cases m <;> cases hd : o.dst <;> simp only [SS.upd, SS.put, SS.mem, hd]
   · simp
   · rw [lk_cons]; simp only [Option.some.injEq]; rename_i d; by_cases e : k = d
     · rw [if_pos e, if_pos e.symm]
     · rw [if_neg e, if_neg (fun h => e h.symm)]
   · simp
   · rw [lk_cons]; simp only [Option.some.injEq]; rename_i d; by_cases e : k = d
     · rw [if_pos e, if_pos e.symm]
     · rw [if_neg e, if_neg (fun h => e h.symm)]
 have hme : ∀ (st : SS) (o : Oper) (x : SV) (m : Option ME) (k : Nat), lk k (st.upd o x m).me = match m with | none => lk k st.me | some mm => if k = o.dst.getD 0 then some mm else lk k st.me := fun st o x m k => by
   cases m <;> cases hd : o.dst <;> simp only [SS.upd, SS.put, SS.mem, hd] <;> rw [lk_cons] <;> simp
 refine ⟨fun k => ?_, fun k => ?_, by rw [hre, hre, hre, hre], fun k => ?_⟩
 · rw [htm, htm, htm, htm]
   by_cases h1 : oi.dst = some k
   · rw [if_pos h1, if_neg (hne k h1), if_pos h1]
   · rw [if_neg h1, if_neg h1]
 · rw [hme, hme, hme, hme]
   cases m with
   | none => rfl
   | some mm => cases q with
     | none => rfl
     | some qq =>
       simp only
       obtain ⟨di, hdi⟩ := Option.isSome_iff_exists.1 (hm rfl)
       obtain ⟨dj, hdj⟩ := Option.isSome_iff_exists.1 (hq rfl)
       have : di ≠ dj := fun e => hne di hdi (by rw [hdj, e])
       rw [hdi, hdj]
       simp only [Option.getD_some]
       by_cases h1 : k = di
       · rw [if_pos h1, if_neg (fun e => this (h1.symm.trans e)), if_pos h1]
       · rw [if_neg h1, if_neg h1]
 · cases m <;> cases q <;> simp only [SS.upd, has_put, has_mem] <;> ac_rfl

def SOp (P : Program) (T : TT) (C : Cx) (ops : Array Oper) (late : Late) (m : Nat) (i : Nat) (K : SS → Prop) (st : SS) : Prop :=
 match ops[i]? with
 | none => K st
 | some o => if isQ late m i = true then dstOk C.N o.dst = true ∧ ∃ x q, GEff P T ops.toList st o x q ∧ K (st.upd o x q)
   else match lateOf late i with
     | some κ => ∃ mm, storeBox T st o κ = some mm ∧ K (st.mem κ mm)
     | none => ∃ st', (∀ a w, SR C st a w → SR C st' a w) ∧ sopG P T C ops.toList o st' K
def SAny (P : Program) (T : TT) (C : Cx) (ops : Array Oper) (late : Late) (m : Nat) (K : SS → Prop) : Nat → Array Bool → SS → Prop
 | 0, listed, st => Region.ready .any ops listed = [] ∧ ∃ st', (∀ a w, SR C st a w → SR C st' a w) ∧ K st'
 | fuel + 1, listed, st => (Region.ready .any ops listed = [] → ∃ st', (∀ a w, SR C st a w → SR C st' a w) ∧ K st') ∧
   ∀ i ∈ Region.ready .any ops listed, SOp P T C ops late m i (SAny P T C ops late m K fuel (listed.setIfInBounds i true)) st

theorem SOp.mono {ops : Array Oper} {late : Late} {m i : Nat} {K K' : SS → Prop} {st : SS} (hk : ∀ s, K s → K' s) (h : SOp P T C ops late m i K st) : SOp P T C ops late m i K' st := by
 unfold SOp at *
 split at h
 · exact hk _ h
 · split at h
   · rename_i hlt; rw [if_pos hlt]; obtain ⟨hd, x, q, h1, h2⟩ := h; exact ⟨hd, x, q, h1, hk _ h2⟩
   · rename_i hlt; rw [if_neg hlt]
     split at h
     · obtain ⟨mm, h1, h2⟩ := h; exact ⟨mm, h1, hk _ h2⟩
     · obtain ⟨s, h1, h2⟩ := h; exact ⟨s, h1, sopG_mono hk h2⟩

theorem storeBox_inv {st : SS} {o : Oper} {κ : Nat} {mm : ME} (h : storeBox T st o κ = some mm) : ∃ t x y e off sv cs ty, o.op = .store t x y ∧ o.dst = none ∧ o.guard = none ∧ lk t T = some e ∧ ev st x = some (.o (.p κ off)) ∧ ev st y = some sv ∧
   lk κ st.me = some (.box cs ty) ∧ (Nat.beq sv.cells.length e.size && sv.cells.all oneB) = true ∧ Nat.ble (off + e.size) cs.length = true ∧ mm = .box (putN off sv.cells cs) ty := by
 unfold storeBox at h
 split at h
 · split at h
   · rename_i t x y hop _ _ _ _ _ _ e k off sv cs ty hd hg ht hx hy hme
     cases hb : (Nat.beq k κ && (Nat.beq sv.cells.length e.size && sv.cells.all oneB) && Nat.ble (off + e.size) cs.length) with
     | false => rw [hb] at h; cases h
     | true =>
       rw [hb] at h
       simp only [cond_true, Option.some.injEq] at h
       rw [Bool.and_eq_true, Bool.and_eq_true] at hb
       have hk : k = κ := Nat.eq_of_beq_eq_true hb.1.1
       subst hk
       exact ⟨t, x, y, e, off, sv, cs, ty, hop, hd, hg, ht, hx, hy, hme, hb.1.2, hb.2, h.symm⟩
   · cases h
 · cases h
theorem storeBox_sop {st : SS} {o : Oper} {κ : Nat} {mm : ME} {all : List Oper} {K : SS → Prop} (h : storeBox T st o κ = some mm) (hK : K { st with me := setL κ mm st.me }) : sopG P T C all o st K := by
 obtain ⟨t, x, y, e, off, sv, cs, ty, hop, hd, hg, ht, hx, hy, hme, h1, h2, rfl⟩ := storeBox_inv h
 unfold sopG
 rw [hg]
 simp only
 unfold sop
 have hdop : dop T st (o.dst.getD 0) o.op = none := by rw [hop]; rfl
 rw [hdop]
 simp only [hd]
 show bif dstOk C.N none then _ else _
 have : dstOk C.N none = true := rfl
 rw [this]
 simp only [cond_true]
 unfold sopX
 rw [hop]
 simp only [hd]
 unfold sopStore
 simp only [ht, hx, hy, h1, cond_true, hme, h2]
 exact hK
theorem SR.lk {C : Cx} {st : SS} {me' : List (Nat × ME)} {a : Act} {w : World} (hl : ∀ k, lk k me' = lk k st.me) (h : SR C st a w) : SR C { st with me := me' } a w := by
 obtain ⟨E, h⟩ := h
 have hm := h.mem
 exact ⟨E, h.size, h.defers, h.tm, ⟨fun k m hk => hm.ent k m (by rw [← hl]; exact hk), fun k m b hk => hm.ge k m b (by rw [← hl]; exact hk), fun k k' m m' b hk hk' => hm.inj k k' m m' b (by rw [← hl]; exact hk) (by rw [← hl]; exact hk'),
   fun R hR => let ⟨r1, r2, r3⟩ := hm.res R hR; ⟨r1, r2, fun b hb => ⟨(r3 b hb).1, fun k m hk => (r3 b hb).2 k m (by rw [← hl]; exact hk)⟩⟩, hm.ext, fun j b m hX hj => hm.rig j b m hX (by rw [← hl]; exact hj)⟩⟩
theorem cells_has {sv : SV} {d : Nat} (h : sv.has d = false) : sv.cells.any (AV.has d) = false := by
 cases sv with
 | o y => cases y <;> simp_all [SV.cells, SV.has, AV.has]
 | a xs => exact h
theorem putN_anyF {f : AV → Bool} {off : Nat} {l cs : List AV} (hle : off + l.length ≤ cs.length) (h1 : l.any f = false) (h2 : cs.any f = false) : (putN off l cs).any f = false := by
 rw [putN_eq off l cs hle]
 rw [List.any_eq_false] at h1 h2 ⊢
 intro z hz
 rcases List.mem_append.1 hz with hz | hz
 · rcases List.mem_append.1 hz with hz | hz
   · exact h2 z (List.mem_of_mem_take hz)
   · exact h1 z hz
 · exact h2 z (List.mem_of_mem_drop hz)
theorem storeBox_has {st : SS} {o : Oper} {κ d : Nat} {mm : ME} (h : storeBox T st o κ = some mm) (hd : st.has d = false) : (st.mem κ mm).has d = false := by
 obtain ⟨t, x, y, e, off, sv, cs, ty, hop, hd', hg, ht, hx, hy, hme, h1, h2, rfl⟩ := storeBox_inv h
 have hk := SS.has_me hd hme
 rw [has_mem, hd, Bool.or_false, beq_false.2 hk.1, Bool.false_or]
 show (putN off sv.cells cs).any (AV.has d) = false
 rw [Bool.and_eq_true] at h1
 refine putN_anyF ?_ (cells_has (ev_has hd hy)) hk.2
 rw [Nat.eq_of_beq_eq_true h1.1]; exact Nat.le_of_ble_eq_true h2
theorem storeBox_congr {st st' : SS} {o : Oper} {κ : Nat} (hev : ∀ y ∈ o.op.operands.toList, ev st' y = ev st y) (hme : lk κ st'.me = lk κ st.me) : storeBox T st' o κ = storeBox T st o κ := by
 unfold storeBox
 split
 · rename_i t x y hop
   rw [hop] at hev
   rw [hev x (by simp [Op.operands]), hev y (by simp [Op.operands]), hme]
 · rfl

theorem SAny.eqv {ops : Array Oper} {late : Late} {m : Nat} {K : SS → Prop} : ∀ {fuel : Nat} {listed : Array Bool} {st st' : SS}, SAny P T C ops late m K fuel listed st → Eqv st st' → SAny P T C ops late m K fuel listed st'
 | 0, listed, st, st', h, e => ⟨h.1, let ⟨s, h1, h2⟩ := h.2; ⟨s, fun a w hr => h1 a w (hr.eqv e.symm), h2⟩⟩
 | fuel + 1, listed, st, st', h, e => by
   refine ⟨fun h0 => let ⟨s, h1, h2⟩ := h.1 h0; ⟨s, fun a w hr => h1 a w (hr.eqv e.symm), h2⟩, fun i hi => ?_⟩
   have := h.2 i hi
   unfold SOp at *
   split at this
   · exact SAny.eqv this e
   · split at this
     · rename_i hlt; rw [if_pos hlt]; obtain ⟨hd, x, q, h1, h2⟩ := this; exact ⟨hd, x, q, h1.eqv e, SAny.eqv h2 (e.upd _ _ _)⟩
     · rename_i hlt; rw [if_neg hlt]
       split at this
       · rename_i κ _
         obtain ⟨mm, h1, h2⟩ := this
         exact ⟨mm, (storeBox_congr (fun y _ => e.ev y) (e.me _)).trans h1, SAny.eqv h2 (e.mem κ mm)⟩
       · obtain ⟨s, h1, h2⟩ := this; exact ⟨s, fun a w hr => h1 a w (hr.eqv e.symm), h2⟩

def Closed (ops : Array Oper) (listed : Array Bool) : Prop := ∀ (k : Nat) (ok : Oper), listed[k]? = some true → ops[k]? = some ok → ∀ e ∈ ok.after, Region.binds .any e = true → listed[e.on]? = some true
theorem waitsT_listed {ops : Array Oper} {listed : Array Bool} (hcl : Closed ops listed) {i : Nat} : ∀ {f j : Nat} {oj : Oper}, ops[j]? = some oj → (∀ e ∈ oj.after, Region.binds .any e = true → listed[e.on]? = some true) → waitsT ops f j i = true → listed[i]? = some true
 | 0, j, oj, _, _, h => by simp [waitsT] at h
 | f + 1, j, oj, hoj, hall, h => by
   simp only [waitsT, hoj] at h
   obtain ⟨e, he, hbe⟩ := Array.any_eq_true'.1 h
   simp only [Bool.and_eq_true, Bool.or_eq_true] at hbe
   have hl := hall e he hbe.1
   rcases hbe.2 with h1 | h1
   · rw [Nat.eq_of_beq_eq_true h1] at hl; exact hl
   · cases hoe : ops[e.on]? with
     | none =>
       cases f with
       | zero => simp [waitsT] at h1
       | succ f => simp [waitsT, hoe] at h1
     | some oe => exact waitsT_listed hcl hoe (hcl e.on oe hl hoe) h1
theorem Closed.set {ops : Array Oper} {listed : Array Bool} (hcl : Closed ops listed) {j : Nat} {oj : Oper} (hoj : ops[j]? = some oj) (hall : ∀ e ∈ oj.after, Region.binds .any e = true → listed[e.on]? = some true) : Closed ops (listed.setIfInBounds j true) := by
 have hmono : ∀ k : Nat, listed[k]? = some true → (listed.setIfInBounds j true)[k]? = some true := by
   intro k hk
   rw [Array.getElem?_setIfInBounds]
   split
   · rename_i e
     subst e
     rw [if_pos (Array.getElem?_eq_some_iff.1 hk).1]
   · exact hk
 intro k ok hk hok e he hb
 by_cases hkj : j = k
 · subst hkj
   rw [hoj] at hok; cases hok
   exact hmono _ (hall e he hb)
 · rw [Array.getElem?_setIfInBounds_ne hkj] at hk
   exact hmono _ (hcl k ok hk hok e he hb)

theorem opnds_ok {op : Op} {l : List Operand} (h : opnds op = some l) : op.operands.toList = l := by
 cases op
 case call c =>
   obtain ⟨callee, args, ts⟩ := c
   cases callee <;> simp_all [opnds, Op.operands, Call.operands]
 all_goals simp_all [opnds, Op.operands]
theorem freeOf_ne {st : SS} {o : Oper} {κ : Nat} (h : freeOf st o κ = true) : ∀ y ∈ o.op.operands.toList, ∀ sv k, ev st y = some sv → sv.has k = true → k ≠ κ := by
 intro y hy sv k hsv hk e
 unfold freeOf at h
 cases ho : opnds o.op with
 | none => rw [ho] at h; cases h
 | some l =>
   rw [ho] at h
   rw [opnds_ok ho] at hy
   have := (List.all_eq_true.1 h) y hy
   rw [hsv] at this
   simp only at this
   rw [← e, hk] at this
   cases this
theorem freeOf_congr {st st' : SS} {o : Oper} {κ : Nat} (hev : ∀ y ∈ o.op.operands.toList, ev st' y = ev st y) : freeOf st' o κ = freeOf st o κ := by
 unfold freeOf
 cases ho : opnds o.op with
 | none => rfl
 | some l =>
   rw [opnds_ok ho] at hev
   simp only
   rw [Bool.eq_iff_iff, List.all_eq_true, List.all_eq_true]
   exact ⟨fun h y hy => by rw [← hev y hy]; exact h y hy, fun h y hy => by rw [hev y hy]; exact h y hy⟩
theorem GEff.store {ops : Array Oper} {st : SS} {oi oj : Oper} {x : SV} {q : Option ME} {κ : Nat} {mm : ME} (hf : freeOf st oi κ = true) (hs : storeBox T st oj κ = some mm) (hi : GEff P T ops.toList st oi x q) :
   GEff P T ops.toList (st.mem κ mm) oi x q := by
 have hsame : Same st (st.mem κ mm) oi.op.operands.toList := by
   refine ⟨fun y _ => by cases y <;> rfl, fun y hy sv k hsv hk => ?_⟩
   show lk k ((κ, mm) :: st.me) = _
   rw [lk_cons, if_neg (freeOf_ne hf y hy sv k hsv hk)]
 have hD : ∀ {y : SV} {r : Option ME}, DEff P T st oi y r → DEff P T (st.mem κ mm) oi y r := fun h =>
   h.congr hsame rfl (fun hr => by rw [h.fresh hr]; exact storeBox_has hs (h.fresh hr))
 unfold GEff at hi ⊢
 split at hi
 · exact hD hi
 · obtain ⟨t, b, hg, h⟩ | ⟨h0, h1, h2⟩ := hi
   · exact .inl ⟨t, b, hg, h.imp (fun ⟨h1, h2⟩ => ⟨h1, hD h2⟩) id⟩
   · exact .inr ⟨h0, h1, h2⟩
theorem upd_mem {st : SS} {o : Oper} {x : SV} {q : Option ME} {κ : Nat} {mm : ME} (hne : q.isSome = true → κ ≠ o.dst.getD 0) : Eqv ((st.upd o x q).mem κ mm) ((st.mem κ mm).upd o x q) := by
 have hre : ∀ (st : SS) (o : Oper) (x : SV) (m : Option ME), (st.upd o x m).re = st.re := fun st o x m => by cases m <;> cases hd : o.dst <;> simp [SS.upd, SS.put, SS.mem, hd]
 refine ⟨fun k => ?_, fun k => ?_, ?_, fun k => ?_⟩
 · cases q <;> cases hd : o.dst <;> simp [SS.upd, SS.put, SS.mem, hd]
 · cases q with
   | none => cases hd : o.dst <;> simp [SS.upd, SS.put, SS.mem, hd]
   | some mq =>
     have := hne rfl
     have h2 : ∀ d, d = o.dst.getD 0 → lk k ((d, mq) :: (κ, mm) :: st.me) = lk k ((κ, mm) :: (d, mq) :: st.me) := by
       intro d hd
       rw [lk_cons, lk_cons, lk_cons, lk_cons]
       by_cases e1 : k = d
       · by_cases e2 : k = κ
         · exact absurd (by rw [← e2, e1, hd]) this
         · rw [if_pos e1, if_neg e2, if_pos e1]
       · rw [if_neg e1, if_neg e1]
     cases hd : o.dst <;> simp only [SS.upd, SS.put, SS.mem, hd]
     · exact h2 _ (by rw [hd])
     · exact h2 _ (by rw [hd])
 · rw [hre]; show st.re = ((st.upd o x q)).re; rw [hre]
 · cases q <;> simp only [SS.upd, has_put, has_mem] <;> ac_rfl

theorem SAny.first {ops : Array Oper} {late : Late} {m i : Nat} {oi : Oper} {x : SV} {q : Option ME} {K : SS → Prop} (hi : ops[i]? = some oi) (him : isQ late m i = true) (hdi : dstOk C.N oi.dst = true) :
   ∀ (fuel : Nat) (listed : Array Bool) (st : SS),
     (∀ j oj, ops[j]? = some oj → j ≠ i → listed.getD j true = false → (∀ e ∈ oj.after, Region.binds .any e = true → e.on ≠ i) → oi.apart ops oj = true ∧ (isQ late m j = true ∨ (∃ f, waitsT ops f j i = true) ∨ ∃ κ, lateOf late j = some κ ∧ freeOf st oi κ = true)) →
     Closed ops listed → i ∈ Region.ready .any ops listed → GEff P T ops.toList st oi x q →
     SAny P T C ops late m K fuel (listed.setIfInBounds i true) (st.upd oi x q) → SAny P T C ops late m K (fuel + 1) listed st := by
 intro fuel
 have take : ∀ {fuel' : Nat} {listed : Array Bool} {st : SS}, GEff P T ops.toList st oi x q → SAny P T C ops late m K fuel' (listed.setIfInBounds i true) (st.upd oi x q) →
     SOp P T C ops late m i (SAny P T C ops late m K fuel' (listed.setIfInBounds i true)) st := by
   intro fuel' listed st hg h
   unfold SOp
   simp only [hi]
   rw [if_pos him]
   exact ⟨hdi, x, q, hg, h⟩
 induction fuel with
 | zero =>
   intro listed st _ _ hr hy H
   refine ⟨fun h => (by rw [h] at hr; cases hr), fun j hj => ?_⟩
   by_cases hji : j = i
   · subst hji; exact take hy H
   · have := ready_mono hj hji
     rw [H.1] at this
     cases this
 | succ fuel ih =>
   intro listed st hfree hcl hr hy H
   refine ⟨fun h => (by rw [h] at hr; cases hr), fun j hj => ?_⟩
   by_cases hji : j = i
   · subst hji; exact take hy H
   · have h1 := H.2 j (ready_mono hj hji)
     obtain ⟨hjun, oj, hoj, hall⟩ := mem_ready.1 hj
     have hnot : ∀ e ∈ oj.after, Region.binds .any e = true → e.on ≠ i := fun e he hb heq => by
       have h1 := hall e he hb
       have h0 := (mem_ready.1 hr).1
       rw [heq] at h1
       rcases Nat.lt_or_ge i listed.size with h' | h'
       · simp [h'] at h0 h1; rw [h0] at h1; cases h1
       · simp [Array.getElem?_eq_none h'] at h1
     have hall' : ∀ e ∈ oj.after, Region.binds .any e = true → listed[e.on]? = some true := fun e he hb => by
       have := hall e he hb
       rcases Nat.lt_or_ge e.on listed.size with h' | h'
       · simp [h'] at this ⊢; exact this
       · simp [Array.getElem?_eq_none h'] at this
     have hunset : ∀ k, (listed.setIfInBounds j true).getD k true = false → listed.getD k true = false := by
       intro k hun
       by_cases hjk : j = k
       · subst hjk; exact hjun
       · rw [getD_set_ne true hjk] at hun; exact hun
     obtain ⟨hap, hjm⟩ := hfree j oj hoj hji hjun hnot
     have hjm : isQ late m j = true ∨ ∃ κ, lateOf late j = some κ ∧ freeOf st oi κ = true := by
       rcases hjm with h | ⟨f, h⟩ | h
       · exact .inl h
       · have h1 := waitsT_listed hcl hoj hall' h
         have h0 := (mem_ready.1 hr).1
         rcases Nat.lt_or_ge i listed.size with h' | h'
         · simp [h'] at h0 h1; rw [h0] at h1; cases h1
         · simp [Array.getElem?_eq_none h'] at h1
       · exact .inr h
     obtain ⟨a1, a2, a3⟩ := Oper.apart_spec hap
     unfold SOp at h1 ⊢
     simp only [hoj] at h1 ⊢
     by_cases hjlt : isQ late m j = true
     · rw [if_pos hjlt] at h1 ⊢
       obtain ⟨hdj, y, r, hg, hS⟩ := h1
       have hgj : GEff P T ops.toList st oj y r := (GEff.upd_iff a1 a2 hy).1 hg
       have hyi : GEff P T ops.toList (st.upd oj y r) oi x q := (GEff.upd_iff (fun d hd => a3 d hd) (fun d hd hd' => a2 d hd' hd) hgj).2 hy
       refine ⟨hdj, y, r, hgj, ih _ _ ?_ (hcl.set hoj hall') (ready_mono hr (Ne.symm hji)) hyi ?_⟩
       · intro k ok hk hki hun hno
         obtain ⟨b1, b2⟩ := hfree k ok hk hki (hunset k hun) hno
         refine ⟨b1, b2.imp id (fun b2 => b2.imp id (fun ⟨κ, c1, c2⟩ => ⟨κ, c1, ?_⟩))⟩
         rw [freeOf_congr (same_upd (st := st) (x := y) (m := r) a3 (fun hm => (hgj.fresh hm).2)).ev]; exact c2
       · rw [Array.setIfInBounds_comm _ _ hji]
         exact hS.eqv (upd_comm a2 (fun h => (hy.fresh h).1) (fun h => (hgj.fresh h).1))
     · rw [if_neg hjlt] at h1 ⊢
       rcases hjm with h | ⟨κ, hκ, hfr⟩
       · exact absurd h hjlt
       · rw [hκ] at h1 ⊢
         simp only at h1 ⊢
         obtain ⟨mm, hst, hS⟩ := h1
         have hsu := same_upd (st := st) (x := x) (m := q) (oi := oi) (oj := oj) a1 (fun hm => (hy.fresh hm).2)
         obtain ⟨t, px, py, e, off, sv, cs, ty, hop, hd, hg, ht, hx, _⟩ := storeBox_inv hst
         have hxs : ev st px = some (.o (.p κ off)) := (hsu.ev px (by rw [hop]; simp [Op.operands])).symm.trans hx
         have hkd : q.isSome = true → κ ≠ oi.dst.getD 0 := by
           intro hm heq
           have := ev_has ((hy.fresh hm).2) hxs
           rw [← heq] at this
           simp [SV.has, AV.has] at this
         have hmek : lk κ (st.upd oi x q).me = lk κ st.me := by
           cases hq : q with
           | none => cases hdd : oi.dst <;> simp [SS.upd, SS.put, hdd]
           | some mq =>
             have := hkd (by rw [hq]; rfl)
             cases hdd : oi.dst <;> simp only [SS.upd, SS.put, SS.mem, hdd, lk_cons] <;> rw [hdd] at this <;> rw [if_neg this]
         have hst' : storeBox T st oj κ = some mm := (storeBox_congr hsu.ev hmek).symm.trans hst
         refine ⟨mm, hst', ih _ _ ?_ (hcl.set hoj hall') (ready_mono hr (Ne.symm hji)) (GEff.store hfr hst' hy) ?_⟩
         · intro k ok hk hki hun hno
           obtain ⟨b1, b2⟩ := hfree k ok hk hki (hunset k hun) hno
           refine ⟨b1, b2.imp id (fun b2 => b2.imp id (fun ⟨κ', c1, c2⟩ => ⟨κ', c1, ?_⟩))⟩
           rw [freeOf_congr (st := st) (fun y _ => by cases y <;> rfl)]; exact c2
         · rw [Array.setIfInBounds_comm _ _ hji]
           exact hS.eqv (upd_mem hkd)

end
end Go.Sx
end
section
/- A symbolic executor over loaded Go code: code, loops, functions. -/
namespace Go.Sx
open Go Go.RowKit

def waits (ops : Array Oper) (late : Late) (m i : Nat) (listed : Array Bool) : Bool := (List.range ops.size).all fun j => listed.getD j true || isQ late m j || waitsT ops ops.size j i || lateFree late j i
def bodyFrom (ops : Array Oper) (late : Late) (m : Nat) : List Nat → Array Bool → Bool
 | [], listed => (Region.ready .any ops listed).isEmpty
 | k :: r, listed => (bif isQ late m k then (Region.ready .any ops listed).contains k && Region.free .any ops listed k && waits ops late m k listed else Region.ready .any ops listed == [k]) && bodyFrom ops late m r (listed.setIfInBounds k true)
def drawB (ops : Array Oper) (late : Late) (m : Nat) : Bool := bodyFrom ops late m (List.range ops.size) (Array.replicate ops.size false)

def quietOp : Op → Bool
 | .store _ _ _ => false
 | .call ⟨.builtin .append, _, _⟩ => false
 | .call ⟨.builtin .copy, _, _⟩ => false
 | .makeSlice _ _ _ => false
 | _ => true
def quietN : List Oper → Nat
 | [] => 0
 | o :: r => bif quietOp o.op then quietN r + 1 else 0

section
variable {P : Program} {T : TT} {C : Cx} {ro : Option Nat} {n : Nat}

theorem lateFree_mem {j i : Nat} : ∀ {late : Late}, lateFree late j i = true → ∃ κ fr, lateOf late j = some κ ∧ (j, κ, fr) ∈ late ∧ fr.any (Nat.beq i) = true
 | [], h => by simp [lateFree] at h
 | (s, k, fr) :: r, h => by
   simp only [lateFree] at h
   simp only [lateOf]
   cases hb : Nat.beq s j with
   | true =>
     rw [hb] at h; simp only [cond_true] at h ⊢
     rw [← Nat.eq_of_beq_eq_true hb]
     exact ⟨k, fr, rfl, List.mem_cons_self .., h⟩
   | false =>
     rw [hb] at h; simp only [cond_false] at h ⊢
     obtain ⟨κ, fr', h1, h2, h3⟩ := lateFree_mem h
     exact ⟨κ, fr', h1, List.mem_cons_of_mem _ h2, h3⟩
theorem dsopG_inv {ops : Array Oper} {o : Oper} {st : SS} {K : SS → Prop} (h : dsopG P T C ops.toList o st K) : dstOk C.N o.dst = true ∧ ∃ x q st1, Eqv st st1 ∧ GEff P T ops.toList st o x q ∧ K (st1.upd o x q) := by
 unfold dsopG at h
 split at h
 · rename_i hg
   obtain ⟨hd, x, m, he, hk⟩ := dsop_inv h
   exact ⟨hd, x, m, st, Eqv.refl _, by unfold GEff; rw [hg]; exact he, hk⟩
 · rename_i j want hg
   split at h
   · rename_i t b hgv
     have hl := (gval_mem hgv).2
     have hskip : ∀ bb, b = bb → b ≠ want → (bif dstOk C.N o.dst then K ((st.put (some t) (.o (.v (.bool bb)))).put o.dst (.o (.v undef))) else False) →
         dstOk C.N o.dst = true ∧ ∃ x q st1, Eqv st st1 ∧ GEff P T ops.toList st o x q ∧ K (st1.upd o x q) := by
       intro bb hbb hne hk
       subst hbb
       cases hd : dstOk C.N o.dst with
       | false => rw [hd] at hk; exact hk.elim
       | true =>
         rw [hd] at hk
         exact ⟨rfl, .o (.v undef), none, _, Eqv.redo hl, by unfold GEff; rw [hg]; exact .inl ⟨t, b, hgv, .inr ⟨hne, rfl, rfl⟩⟩, hk⟩
     have hrun : ∀ bb, b = bb → b = want → dsop P T C o (st.put (some t) (.o (.v (.bool bb)))) K → dstOk C.N o.dst = true ∧ ∃ x q st1, Eqv st st1 ∧ GEff P T ops.toList st o x q ∧ K (st1.upd o x q) := by
       intro bb hbb hbw hk
       subst hbb
       have he := Eqv.redo hl
       obtain ⟨hd, x, m, hde, hk⟩ := dsop_inv hk
       exact ⟨hd, x, m, _, he, by unfold GEff; rw [hg]; exact .inl ⟨t, b, hgv, .inl ⟨hbw, hde.congr (he.symm.same _) he.symm.re (fun _ => he.symm.has _)⟩⟩, hk⟩
     cases want <;> cases b <;> simp only [br] at h
     · exact hrun false rfl rfl h
     · exact hskip true rfl (by simp) h
     · exact hskip false rfl (by simp) h
     · exact hrun true rfl rfl h
   · rename_i hgn
     cases hgu : gund ops.toList st j with
     | false => rw [hgu] at h; exact h.elim
     | true =>
       rw [hgu] at h
       simp only [cond_true] at h
       cases hd : dstOk C.N o.dst with
       | false => rw [hd] at h; exact h.elim
       | true =>
         rw [hd] at h
         exact ⟨rfl, .o (.v undef), none, st, Eqv.refl _, by unfold GEff; rw [hg]; exact .inr ⟨hgn, hgu, rfl, rfl⟩, h⟩

theorem body_any {ops : Array Oper} {late : Late} {m : Nat} {K : SS → Prop} : ∀ (r : List (Nat × Oper)) (listed : Array Bool) (st : SS), (∀ p ∈ r, ops[p.1]? = some p.2) → bodyFrom ops late m (r.map (·.1)) listed = true → Closed ops listed →
   dops P T C ops.toList late m r st K → SAny P T C ops late m K r.length listed st
 | [], listed, st, _, hb, hcl, hs => ⟨by simpa [bodyFrom] using hb, st, fun _ _ h => h, hs⟩
 | (k, o) :: r, listed, st, hr, hb, hcl, hs => by
   have h0 : ops[k]? = some o := hr (k, o) (List.mem_cons_self ..)
   have hr' : ∀ p ∈ r, ops[p.1]? = some p.2 := fun p hp => hr p (List.mem_cons_of_mem _ hp)
   simp only [List.map_cons, bodyFrom] at hb
   simp only [dops] at hs
   have hpre : k ∈ Region.ready .any ops listed → ∀ e ∈ o.after, Region.binds .any e = true → listed[e.on]? = some true := by
     intro hrd
     obtain ⟨_, o', ho', hall⟩ := mem_ready.1 hrd
     rw [h0] at ho'; cases ho'
     intro e he hbe
     have := hall e he hbe
     rcases Nat.lt_or_ge e.on listed.size with h' | h'
     · simp [h'] at this ⊢; exact this
     · simp [Array.getElem?_eq_none h'] at this
   cases hkm : isQ late m k with
   | false =>
     rw [hkm] at hb hs
     simp only [cond_false, Bool.and_eq_true, beq_iff_eq] at hb hs
     have hmem : k ∈ Region.ready .any ops listed := by rw [hb.1]; exact List.mem_singleton.2 rfl
     have hnext : ∀ s, dops P T C ops.toList late m r s K → SAny P T C ops late m K r.length (listed.setIfInBounds k true) s := fun s hs' => body_any r _ s hr' hb.2 (hcl.set h0 (hpre hmem)) hs'
     refine ⟨fun h => (by rw [hb.1] at h; cases h), fun i hi => ?_⟩
     rw [hb.1] at hi
     simp only [List.mem_singleton] at hi
     subst hi
     unfold SOp
     simp only [h0]
     rw [if_neg (by rw [hkm]; simp)]
     cases hlt : lateOf late i with
     | none =>
       rw [hlt] at hs
       exact ⟨st, fun _ _ h => h, sopG_mono hnext hs⟩
     | some κ =>
       rw [hlt] at hs
       simp only at hs ⊢
       cases hsb : storeBox T st o κ with
       | none => rw [hsb] at hs; exact hs.elim
       | some mm => rw [hsb] at hs; exact ⟨mm, rfl, hnext _ hs⟩
   | true =>
     rw [hkm] at hb hs
     simp only [cond_true, Bool.and_eq_true] at hb hs
     obtain ⟨⟨⟨hready, hfree⟩, hwait⟩, hb⟩ := hb
     cases hlo : lateOk late k st o with
     | false => rw [hlo] at hs; exact hs.elim
     | true =>
     rw [hlo] at hs
     simp only [cond_true] at hs
     obtain ⟨hd, x, q, st1, he, hg, hK⟩ := dsopG_inv hs
     have hspec := Region.free_spec h0 hfree
     have hrd : k ∈ Region.ready .any ops listed := by simpa using hready
     refine SAny.first (q := q) h0 hkm hd r.length listed st ?_ hcl hrd hg ?_
     · intro j oj hoj hne hun hno
       refine ⟨hspec j oj hoj hne hun hno, ?_⟩
       unfold waits at hwait
       rw [List.all_eq_true] at hwait
       have hj := hwait j (List.mem_range.2 (Array.getElem?_eq_some_iff.1 hoj).1)
       rw [hun] at hj
       simp only [Bool.or_eq_true, Bool.false_eq_true, false_or] at hj
       rcases hj with (hj | hj) | hj
       · exact .inl hj
       · exact .inr (.inl ⟨_, hj⟩)
       · obtain ⟨κ, fr, hκ, hm, hfr⟩ := lateFree_mem hj
         unfold lateOk at hlo
         rw [List.all_eq_true] at hlo
         have := hlo _ hm
         simp only [hfr, Bool.not_true, Bool.false_or] at this
         exact .inr (.inr ⟨κ, hκ, this⟩)
     · have := body_any (K := K) r (listed.setIfInBounds k true) _ hr' hb (hcl.set h0 (hpre hrd)) hK
       exact this.eqv (he.symm.upd o x q)
theorem pairs_mem {ops : Array Oper} : ∀ (l : List Oper) (k : Nat), (∀ j, l[j]? = ops[k + j]? ∨ l[j]? = none) → ∀ p ∈ pairs k l, ops[p.1]? = some p.2
 | [], k, _, p, hp => by cases hp
 | o :: r, k, h, p, hp => by
   rcases List.mem_cons.1 hp with rfl | hp
   · rcases h 0 with h0 | h0
     · simpa using h0.symm
     · cases h0
   · refine pairs_mem r (k + 1) (fun j => ?_) p hp
     have := h (j + 1)
     simpa [Nat.add_assoc, Nat.add_comm 1 j] using this
theorem pairs_map : ∀ (l : List Oper) (k : Nat), (pairs k l).map (·.1) = List.range' k l.length
 | [], k => rfl
 | o :: r, k => by simp [pairs, pairs_map r (k + 1), List.range'_succ]
theorem pairs_len : ∀ (l : List Oper) (k : Nat), (pairs k l).length = l.length
 | [], k => rfl
 | o :: r, k => by simp [pairs, pairs_len r (k + 1)]

theorem SAny.sound (hT : TTgood P T) {ops : Array Oper} {late : Late} {m : Nat} {K : SS → Prop} {Q : Exit → Act → World → Prop} (hK : ∀ st a w, K st → SR C st a w → Q .normal a w) : ∀ {fuel : Nat} {listed : Array Bool} {st : SS} {a : Act} {w : World}, SAny P T C ops late m K fuel listed st → SR C st a w →
   wpAnyIn (FW ro) n P .any ops Q fuel listed a w
 | 0, listed, st, a, w, h, hr => ⟨h.1, let ⟨s, h1, h2⟩ := h.2; hK s a w h2 (h1 a w hr)⟩
 | fuel + 1, listed, st, a, w, h, hr => by
   refine ⟨fun h0 => let ⟨s, h1, h2⟩ := h.1 h0; hK s a w h2 (h1 a w hr), fun i hi => ?_⟩
   have hs := h.2 i hi
   unfold SOp at hs
   unfold wpOpIn
   split at hs
   · rename_i ho
     simp only [ho]
     exact SAny.sound hT hK hs hr
   · rename_i o ho
     simp only [ho]
     split at hs
     · obtain ⟨hd, x, q, hg, hS⟩ := hs
       obtain ⟨E, hE⟩ := hr
       unfold GEff at hg
       unfold Region.wanted
       split at hg
       · rename_i hgd
         rw [hgd]
         exact hg.sound hT hE hd (fun a' w' h' => SAny.sound hT hK hS h')
       · rename_i j want hgd
         rw [hgd]
         obtain ⟨t, b, hgv, hg⟩ | ⟨_, hgu, rfl, rfl⟩ := hg
         · obtain ⟨hy, hl⟩ := gval_ok hE hgv
           simp only [hy]
           rcases hg with ⟨hbw, hg⟩ | ⟨hbw, rfl, rfl⟩
           · rw [if_pos (by rw [hbw]; simp)]
             exact hg.sound hT hE hd (fun a' w' h' => SAny.sound hT hK hS h')
           · rw [if_neg (by simpa using hbw)]
             exact ⟨fun _ _ => trivial, SAny.sound hT hK hS ⟨E, hE.put hd _⟩⟩
         · simp only [gund_ok hE hgu]
           rw [if_neg (by simp)]
           exact ⟨fun _ _ => trivial, SAny.sound hT hK hS ⟨E, hE.put hd _⟩⟩
     · split at hs
       · rename_i κ _
         obtain ⟨mm, h1, h2⟩ := hs
         refine sopG_sound hT hr (storeBox_sop (K := fun s => s = { st with me := setL κ mm st.me }) h1 rfl) (fun st' a' w' hk' hr' => ?_)
         subst hk'
         obtain ⟨_, _, _, _, _, _, cs, ty, _, _, _, _, _, _, hme, _⟩ := storeBox_inv h1
         have hr2 : SR C (st.mem κ mm) a' w' := SR.lk (st := { st with me := setL κ mm st.me }) (me' := (κ, mm) :: st.me) (fun k => by
           rw [lk_cons, lk_setL, hme]) hr'
         exact SAny.sound hT hK h2 hr2
       · obtain ⟨s, h1, h2⟩ := hs
         exact sopG_sound hT (h1 a w hr) h2 (fun st' a' w' hk' hr' => SAny.sound hT hK hk' hr')

theorem draw_sound (hT : TTgood P T) (hmix : P.follows .mixedOrders = true) {id : Nat} {ops : Array Oper} {late : Late} {m : Nat} {st : SS} {a : Act} {w : World} {K : SS → Prop} {Q : Exit → Act → World → Prop} (hb : drawB ops late m = true) (h : SR C st a w)
   (hs : dops P T C ops.toList late m (pairs 0 ops.toList) st K) (hK : ∀ st a w, K st → SR C st a w → Q .normal a w) : (Code.region id ops true).wpIn (FW ro) n P Q a w := by
 refine wpIn_region_any hmix ?_
 have h' : SR C st a { w with drawn := w.drawn + 1 } := by
   obtain ⟨E, hE⟩ := h
   exact ⟨E, hE.world ⟨rfl, rfl, rfl, Nat.le_refl _, fun _ _ => rfl, Nat.le_succ _⟩⟩
 have := body_any (P := P) (T := T) (C := C) (K := K) (late := late) (m := m) (pairs 0 ops.toList) (Array.replicate ops.size false) st (pairs_mem _ _ (fun j => .inl (by simp)))
   (by rw [pairs_map, Array.length_toList, ← List.range_eq_range']; exact hb) (fun k ok hk => by simp [Array.getElem?_replicate] at hk) hs
 rw [pairs_len] at this
 have h2 := this.sound (ro := ro) (n := n) hT (Q := Q) hK h'
 simpa using h2

def SLe (C : Cx) (st st' : SS) : Prop := ∀ a w, SR C st a w → SR C st' a w
theorem SLe.refl {st : SS} : SLe C st st := fun _ _ h => h

structure DrawVC (ops : Array Oper) (K : Nat → Late → Prop) : Prop where
 out : ∃ m late, drawB ops late m = true ∧ K m late
theorem DrawVC.quiet {ops : Array Oper} {K : Nat → Late → Prop} (h : drawB ops [] (quietN ops.toList) = true) (k : K (quietN ops.toList) []) : DrawVC ops K := ⟨_, _, h, k⟩
theorem DrawVC.at (m : Nat) {ops : Array Oper} {K : Nat → Late → Prop} (h : drawB ops [] m = true) (k : K m []) : DrawVC ops K := ⟨m, _, h, k⟩
theorem DrawVC.late (late : Late) {ops : Array Oper} {K : Nat → Late → Prop} (h : drawB ops late (quietN ops.toList) = true) (k : K (quietN ops.toList) late) : DrawVC ops K := ⟨_, late, h, k⟩
theorem DrawVC.mono {ops : Array Oper} {K K' : Nat → Late → Prop} (h : DrawVC ops K) (hk : ∀ m l, K m l → K' m l) : DrawVC ops K' := by obtain ⟨m, l, h1, h2⟩ := h.out; exact ⟨m, l, h1, hk m l h2⟩
def sexec (P : Program) (T : TT) (C : Cx) : Code → SS → (Exit → SS → Prop) → Prop
 | .skip, st, Q => Q .normal st
 | .label _, st, Q => Q .normal st
 | .region _ ops draw, st, Q => match draw with
   | false => sops P T C ops.toList ops.toList st (fun st' => Q .normal st')
   | true => DrawVC ops (fun m late => dops P T C ops.toList late m (pairs 0 ops.toList) st (fun st' => Q .normal st'))
 | .seq x y, st, Q => sexec P T C x st (fun e st' => match e with
   | .normal => sexec P T C y st' Q
   | e => Q e st')
 | .cond c x y, st, Q => match ev st c with
   | some (.o (.v (.bool b))) => br b (sexec P T C x st Q) (sexec P T C y st Q)
   | _ => False
 | .block id c, st, Q => sexec P T C c st (fun e st' => match e with
   | .exit j => bif Nat.beq j id then Q .normal st' else Q (.exit j) st'
   | e => Q e st')
 | .loop c, st, Q => ∃ (ι : Type) (I : ι → SS) (μ : ι → Nat) (i : ι), SLe C st (I i) ∧ ∀ i, sexec P T C c (I i) (fun e st' => match e with
   | .normal => ∃ j, μ j < μ i ∧ SLe C st' (I j)
   | e => Q e st')
 | .exit id, st, Q => Q (.exit id) st
 | .goto l, st, Q => Q (.goto l) st
 | .ret, st, Q => Q .ret st
 | _, _, _ => False

def lift (C : Cx) (Q : Exit → SS → Prop) : Exit → Act → World → Prop := fun e a w => ∃ st, SR C st a w ∧ Q e st

theorem sexec_sound (hT : TTgood P T) (hmix : P.follows .mixedOrders = true) : ∀ (c : Code) {st : SS} {Q : Exit → SS → Prop} {a : Act} {w : World}, sexec P T C c st Q → SR C st a w → c.wpIn (FW ro) n P (lift C Q) a w
 | .skip, st, Q, a, w, hs, h => wpIn_skip ⟨st, h, hs⟩
 | .label _, st, Q, a, w, hs, h => wpIn_label ⟨st, h, hs⟩
 | .region id ops draw, st, Q, a, w, hs, h => by
   cases draw with
   | false => exact wpIn_region_list (sops_sound hT (fun st' a' w' hk hr => ⟨st', hr, hk⟩) h hs)
   | true =>
     obtain ⟨m, late, h1, h2⟩ := hs.out
     exact draw_sound hT hmix h1 h h2 (fun st' a' w' hk hr => ⟨st', hr, hk⟩)
 | .seq x y, st, Q, a, w, hs, h => by
   refine wpIn_seq (wpIn_mono (sexec_sound hT hmix x hs h) ?_)
   rintro e a' w' ⟨st', hr, hq⟩
   cases e with
   | normal => exact sexec_sound hT hmix y hq hr
   | _ => exact ⟨st', hr, hq⟩
 | .cond c x y, st, Q, a, w, hs, h => by
   simp only [sexec] at hs
   split at hs
   · rename_i b hb
     obtain ⟨E, hE⟩ := h
     have hev : a.eval c = .bool b := ev_ok hE hb
     refine wpIn_cond_split hev (fun hb => ?_) (fun hb => ?_)
     · subst hb; exact sexec_sound hT hmix x hs ⟨E, hE⟩
     · subst hb; exact sexec_sound hT hmix y hs ⟨E, hE⟩
   · exact hs.elim
 | .block id c, st, Q, a, w, hs, h => by
   refine wpIn_block (wpIn_mono (sexec_sound hT hmix c hs h) ?_)
   rintro e a' w' ⟨st', hr, hq⟩
   cases e with
   | exit j =>
     simp only [Exit.inBlock]
     by_cases hj : j = id
     · subst hj; rw [if_pos rfl]; simp only [Nat.beq_refl, cond_true] at hq; exact ⟨st', hr, hq⟩
     · rw [if_neg hj]; simp only [beq_false.2 hj, cond_false] at hq; exact ⟨st', hr, hq⟩
   | _ => exact ⟨st', hr, hq⟩
 | .loop c, st, Q, a, w, hs, h => by
   obtain ⟨ι, I, μ, i, hi, hround⟩ := hs
   refine wpIn_mono (Q := lift C Q) ?_ (fun _ _ _ h => h)
   have key : ∀ (m : Nat) (i : ι) (a : Act) (w : World), μ i = m → SR C (I i) a w → ∀ (b : Frame) (k : List Item) (cs : List Frame), b.roundOf = (FW ro).round → (FW ro).fn b.fn → (FW ro).room (cs.length + 1 + n) →
       ∃ e a' w', lift C Q e a' w' ∧ ArrivesIn (Machine.fenced P (FW ro)) P (lone (b.atR a (.code c :: .inLoop c :: k)) cs w) b k cs e a' w' := by
     intro m
     induction m using Nat.strongRecOn with
     | _ m ih =>
       intro i a w hm hI b k cs hro hb hr
       obtain ⟨e, a₁, w₁, ⟨st', hst, hq⟩, harr⟩ := sexec_sound hT hmix c (hround i) hI b (.inLoop c :: k) cs hro hb hr
       cases e with
       | normal =>
         obtain ⟨j, hlt, hle⟩ := hq
         obtain ⟨e₂, a₂, w₂, hq₂, harr₂⟩ := ih (μ j) (hm ▸ hlt) j a₁ w₁ rfl (hle _ _ hst) b k cs hro hb hr
         exact ⟨e₂, a₂, w₂, hq₂, .of_steps (StepsIn.trans harr (.one (fenced_calm hb hr rfl) stepR_inLoop)) harr₂⟩
       | exit id => exact ⟨_, a₁, w₁, ⟨st', hst, hq⟩, .pass (x := .inLoop c) rfl (fun _ _ => .inl (by simp)) harr⟩
       | goto l => exact ⟨_, a₁, w₁, ⟨st', hst, hq⟩, .pass (x := .inLoop c) rfl (fun _ _ => .inl (by simp)) harr⟩
       | ret => exact ⟨_, a₁, w₁, ⟨st', hst, hq⟩, .pass (x := .inLoop c) rfl (fun _ _ => .inl (by simp)) harr⟩
       | panic ch => exact ⟨_, a₁, w₁, ⟨st', hst, hq⟩, .pass (x := .inLoop c) rfl (fun _ _ => .inl (by simp)) harr⟩
       | outgrown => exact ⟨_, a₁, w₁, ⟨st', hst, hq⟩, .pass (x := .inLoop c) rfl (fun _ _ => .inl (by simp)) harr⟩
   intro b k cs hro hb hr
   obtain ⟨e, a', w', hq, harr⟩ := key _ i a w rfl (hi _ _ h) b k cs hro hb hr
   exact ⟨e, a', w', hq, .of_steps (.one (fenced_calm hb hr rfl) stepR_loop) harr⟩
 | .exit id, st, Q, a, w, hs, h => wpIn_exit ⟨st, h, hs⟩
 | .goto l, st, Q, a, w, hs, h => wpIn_goto ⟨st, h, hs⟩
 | .ret, st, Q, a, w, hs, h => wpIn_ret ⟨st, h, hs⟩
 | .rangeFunc _ _ _ _, _, _, _, _, hs, _ => hs.elim
 | .scope _, _, _, _, _, hs, _ => hs.elim
 | .refuse _, _, _, _, _, hs, _ => hs.elim

end
end Go.Sx
end
