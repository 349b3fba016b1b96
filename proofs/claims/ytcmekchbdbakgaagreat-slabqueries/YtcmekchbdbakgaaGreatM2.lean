/- A part of the proof of a law. No conditions. -/
import Derived.Test.YtcmekchbdbakgaaGreatM1
import Derived.RangeFuncLeaves
import Derived.RangeFuncOwn
import Derived.Laws.StructEq
import Derived.KernelRfl
set_option linter.unusedVariables false
set_option linter.unusedSimpArgs false
set_option maxRecDepth 10000
set_option maxHeartbeats 8000000
section
namespace Go.Sx
open Go Go.RowKit
abbrev zyS:=@Option.getD_some

def br : Bool->Prop->Prop->Prop
 | true,A,_=>A
 | false,_,B=>B
theorem zaj {b : Bool} {A B : Prop} (ht : b=true->A) (hf : b=false->B) : br b A B:=by
 cases b
 ·exact hf rfl
 ·exact ht rfl
theorem zag {b : Bool} {A B : Prop} (h : b=true) (ht : A) : br b A B:=by subst h; exact ht
theorem zac {b : Bool} {A B : Prop} (h : b=false) (hf : B) : br b A B:=by subst h; exact hf

def gval (all : List Oper) (st : SS) (j : Nat) : Option (Nat×Bool):=match nth j all with
 | some oj=>match oj.dst with
  | some t=>match lk t st.tm with
   | some (.o (.v (.bool b)))=>some (t,b)
   | _=>none
  | none=>none
 | none=>none

def gund (all : List Oper) (st : SS) (j : Nat) : Bool:=match nth j all with
 | some oj=>match oj.dst with
  | some t=>match lk t st.tm with
   | some (.o (.v (.tuple _)))=>true
   | _=>false
  | none=>false
 | none=>false
def sopG (P : Program) (T : TT) (C : Cx) (all : List Oper) (o : Oper) (st : SS) (K : SS->Prop) : Prop:=match o.guard with
 | none=>sop P T C o st K
 | some (j,want)=>match gval all st j with
  | some (t,b)=>match want with
   | true=>br b (sop P T C o (st.put (some t) (.o (.v (.bool true)))) K) (bif zby C.N o.dst then K ((st.put (some t) (.o (.v (.bool false)))).put o.dst (.o (.v undef))) else False)
   | false=>br b (bif zby C.N o.dst then K ((st.put (some t) (.o (.v (.bool true)))).put o.dst (.o (.v undef))) else False) (sop P T C o (st.put (some t) (.o (.v (.bool false)))) K)
  | none=>bif gund all st j then (bif zby C.N o.dst then K (st.put o.dst (.o (.v undef))) else False) else False
def sops (P : Program) (T : TT) (C : Cx) (all : List Oper) : List Oper->SS->(SS->Prop)->Prop
 | [],st,K=>K st
 | o::r,st,K=>sopG P T C all o st (fun st'=>sops P T C all r st' K)

section
variable {P : Program} {T : TT} {C : Cx} {E : Env} {st : SS} {a : Act} {w : World} {ro : Option Nat} {n : Nat}

theorem zpt (h : SRE C E st a w) {ops : Array Oper} {j t : Nat} {b : Bool} (hg : gval ops.toList st j=some (t,b)) : yielded ops a.tmps j=some b/\lk t st.tm=some (.o (.v (.bool b))):=by
 unfold gval at hg;split at hg
 ·rename_i oj hj;split at hg
  ·rename_i t' hd;split at hg
   ·rename_i b' hl
    cases hg
    rw [zdc,zys] at hj;have:=h.tm _ _ hl;refine ⟨?_,hl⟩;unfold yielded;simp only [hj,Option.bind_some,hd,this];rfl
   ·cases hg
  ·cases hg
 ·cases hg

theorem zo8 (h : SRE C E st a w) {ops : Array Oper} {j : Nat} (hg : gund ops.toList st j=true) : yielded ops a.tmps j=none:=by
 unfold gund at hg;split at hg
 ·rename_i oj hj;split at hg
  ·rename_i t' hd;split at hg
   ·rename_i vs hl;rw [zdc,zys] at hj;have:=h.tm _ _ hl;unfold yielded;simp only [hj,Option.bind_some,hd,this];rfl
   ·cases hg
  ·cases hg
 ·cases hg

theorem SRE.redo (h : SRE C E st a w) {t : Nat} {x : SV} (hl : lk t st.tm=some x) : SRE C E (st.put (some t) x) a w:=by
 refine ⟨h.size,h.defers,fun i sv hi=>?_,h.mem⟩;simp only [SS.put,zaB] at hi;split at hi
 ·rename_i e; subst e; cases hi; exact h.tm _ _ hl
 ·exact h.tm _ _ hi

theorem zgq (hT : zaY P T) (hs' : SR C st a w) {ops : Array Oper} {o : Oper} {K : SS->Prop} (hs : sopG P T C ops.toList o st K) {next : Act->World->Prop} {Q : Exit->Act->World->Prop}
  (hK : ∀ st' a' w',K st'->SR C st' a' w'->next a' w') :
  if Region.wanted o (yielded ops a.tmps) then o.wpIn (FW ro) n P a w next Q else (∀ f,o.about P w a.eval=some f->(FW ro).fn f)/\next (a.put o.dst undef) w:=by
 obtain ⟨E,h⟩:=hs';unfold sopG at hs;unfold Region.wanted;split at hs
 ·rename_i hg;rw [hg];exact zfG hT h hs hK
 ·rename_i j want hg;rw [hg];split at hs
  ·rename_i t b hgv;obtain ⟨hy,hl⟩:=zpt h hgv;simp only [hy];have hskip : ∀ bb,b=bb->(bif zby C.N o.dst then K ((st.put (some t) (.o (.v (.bool bb)))).put o.dst (.o (.v undef))) else False)->next (a.put o.dst undef) w:=by
    intro bb hbb hk;subst hbb
    cases hd : zby C.N o.dst with
    | false=>rw [hd] at hk; exact hk.elim
    | true=>rw [hd] at hk; exact hK _ _ _ hk ⟨E,(h.redo hl).put hd _⟩
   cases want <;> cases b <;> simp only [br] at hs
   ·exact zfG hT (h.redo hl) hs hK
   ·exact ⟨fun _ _=>trivial,hskip true rfl hs⟩
   ·exact ⟨fun _ _=>trivial,hskip false rfl hs⟩
   ·exact zfG hT (h.redo hl) hs hK
  ·cases hgu : gund ops.toList st j with
   | false=>rw [hgu] at hs; exact hs.elim
   | true =>
    rw [hgu] at hs;simp only [cond_true] at hs;simp only [zo8 h hgu];rw [zxI (by simp)];refine ⟨fun _ _=>trivial,?_⟩
    cases hd : zby C.N o.dst with
    | false=>rw [hd] at hs; exact hs.elim
    | true=>rw [hd] at hs; exact hK _ _ _ hs ⟨E,h.put hd _⟩

theorem ziZ (hT : zaY P T) {ops : Array Oper} {Q : Exit->Act->World->Prop} {K : SS->Prop} (hK : ∀ st' a' w',K st'->SR C st' a' w'->Q .normal a' w') : ∀ {l : List Oper} {st : SS} {a : Act} {w : World},SR C st a w->sops P T C ops.toList l st K ->
  wpListIn (FW ro) n P ops Q l a w
 | [],st,a,w,h,hs=>hK _ _ _ hs h
 | o::r,st,a,w,h,hs=>by
  have:=zgq (ro:=ro) (n:=n) hT h hs (next:=wpListIn (FW ro) n P ops Q r) (Q:=Q) (fun st' a' w' hk hr=>ziZ hT hK hr hk);exact this

theorem zan.mono {n : Nat} {agg : Bool} {A : Option Addr} {K K' : SV->Prop} (h : zan st n agg A K) (hk : ∀ x,K x->K' x) : zan st n agg A K':=by
 obtain ⟨vs,h1,h2,h3,h4⟩:=h.out;exact ⟨vs,h1,h2,h3,hk _ h4⟩
theorem zbi.mono {cs : List Value} {off n : Nat} {agg : Bool} {K K' : SV->Prop} (h : zbi cs off n agg K) (hk : ∀ x,K x->K' x) : zbi cs off n agg K':=by
 obtain ⟨hp,l,h1,h2,h3,h4⟩:=h;exact ⟨hp,l,h1,h2,h3,hk _ h4⟩
theorem zae.mono {g : FuncId} {args : List SV} {K K' : SV->SS->Prop} (h : zae P C g args st K) (hk : ∀ x s,K x s->K' x s) : zae P C g args st K' :=
 ⟨h.enters,fun E w hm=>(h.out E w hm).mono fun e w' ⟨E',st',x,h1,h2,h3,h4,h5⟩=>⟨E',st',x,h1,h2,h3,h4,hk _ _ h5⟩⟩
theorem ze1.mono {A : Option Addr} {n : Nat} {K K' : List Value->Prop} (h : ze1 st A n K) (hk : ∀ x,K x->K' x) : ze1 st A n K':=by
 obtain ⟨vs,h1,h2,h3,h4⟩:=h.out;exact ⟨vs,h1,h2,h3,hk _ h4⟩
theorem zpj.mono {cs : List Value} {n : Nat} {K K' : SV->Prop} (h : zpj cs n K) (hk : ∀ x,K x->K' x) : zpj cs n K':=by
 obtain ⟨l,h1,h2,h3⟩:=h.out;exact ⟨l,h1,h2,hk _ h3⟩
theorem PVC.mono {c K K' : Prop} (h : PVC c K) (hk : K->K') : PVC c K':=⟨h.c,hk h.k⟩
theorem zbE {b : Bool} {A A' : Prop} (ha : A->A') (h : bif b then A else False) : bif b then A' else False:=by cases b; exact h; exact ha h
theorem zpq {b : Bool} {A A' B B' : Prop} (ha : A->A') (hb : B->B') (h : bif b then A else B) : bif b then A' else B':=by cases b; exact hb h; exact ha h
theorem zfA {b : Bool} {A A' : Prop} (ha : A->A') (h : bif b then False else A) : bif b then False else A':=by cases b; exact ha h; exact h
theorem zfq {c : Option Prop} {K K' : Prop} (hk : K->K') (h : andc c K) : andc c K':=by
 cases c with
 | none=>exact hk h
 | some c=>exact ⟨h.c,hk h.k⟩
theorem zgw {t : TypeId} {x : Operand} {K K' : SV->Prop} (hk : ∀ s,K s->K' s) (h : zdy T st t x K) : zdy T st t x K':=by
 unfold zdy at *;split at h
 ·exact h.mono hk
 ·split at h
  ·exact h.mono hk
  ·exact h.elim
 ·exact h.elim
theorem zi7 {t : TypeId} {x y : Operand} {K K' : SS->Prop} (hk : ∀ s,K s->K' s) (h : zdL T st t x y K) : zdL T st t x y K':=by
 unfold zdL at *;split at h
 ·refine zbE ?_ h;intro h;split at h
  ·exact zbE (hk _) h
  ·split at h
   ·exact h.mono (hk _)
   ·exact h.elim
  ·split at h
   ·exact h.mono (hk _)
   ·exact h.elim
  ·exact h.elim
 ·exact h.elim
theorem zkS {d : Nat} {t : TypeId} {x y : Operand} {K K' : SS->Prop} (hk : ∀ s,K s->K' s) (h : zgl T st d t x y K) : zgl T st d t x y K':=by
 unfold zgl at *;split at h
 ·split at h
  ·split at h
   ·exact zfA (fun h=>h.mono (hk _)) h
   ·exact h.elim
  ·exact h.elim
 ·exact h.elim
theorem zka {t : TypeId} {x : Operand} {lo hi mx : Option Operand} {K K' : SV->Prop} (hk : ∀ s,K s->K' s) (h : zeG T st t x lo hi mx K) : zeG T st t x lo hi mx K':=by
 unfold zeG at *;split at h
 ·split at h
  ·split at h
   ·exact zbE (fun h=>h.mono (hk _)) h
   ·exact h.elim
  ·exact h.elim
 ·split at h
  ·split at h
   ·exact h.mono (hk _)
   ·exact h.elim
  ·split at h
   ·split at h
    ·exact h.mono (hk _)
    ·exact h.elim
   ·exact h.elim
  ·exact h.elim
 ·split at h
  ·split at h
   ·exact h.mono (hk _)
   ·exact h.elim
  ·exact h.elim
 ·exact h.elim
theorem zmd {t : TypeId} {x : Operand} {K K' : SS->Prop} (hk : ∀ s,K s->K' s) (h : ziW T st t x K) : ziW T st t x K':=by
 unfold ziW at *;split at h
 ·split at h
  ·split at h
   ·split at h
    ·exact h.mono (hk _)
    ·exact h.elim
   ·exact h.elim
  ·exact h.elim
 ·exact h.elim
theorem zgh {es : Nat} {y : Operand} {f f' : Nat->List Value->Prop} (hk : ∀ m vs,f m vs->f' m vs) (h : zlk st es y f) : zlk st es y f':=by
 unfold zlk at *;split at h
 ·split at h
  ·split at h
   ·exact zbE (fun h=>hk _ _ h) h
   ·exact h.elim
  ·exact h.elim
 ·exact h.mono fun vs h=>hk _ _ h
 ·split at h
  ·exact zbE (fun h=>h.mono (hk _ _)) h
  ·exact h.elim
 ·exact h.elim
theorem zll {s t : TypeId} {x : Operand} {K K' : SV->Prop} (hk : ∀ s,K s->K' s) (h : zgj T st s t x K) : zgj T st s t x K':=by
 unfold zgj at *;split at h
 ·split at h
  ·split at h
   ·split at h
    ·split at h
     ·split at h
      ·exact zbE (fun h=>h.mono hk) h
      ·exact h.elim
     ·split at h
      ·exact h.mono hk
      ·exact h.elim
     ·exact h.elim
    ·exact h.elim
   ·exact h.elim
  ·exact h.elim
 ·exact h.elim
theorem zio {d : Nat} {t : TypeId} {x y : Operand} {K K' : SS->Prop} (hk : ∀ s,K s->K' s) (h : zhB T st d t x y K) : zhB T st d t x y K':=by
 unfold zhB at *;split at h
 ·split at h
  ·split at h
   ·refine zfA ?_ h;intro h;split at h
    ·split at h
     ·exact zbE (zgh fun m vs h=>h.mono (hk _)) h
     ·exact h.elim
    ·exact zgh (fun m vs h=>h.mono (hk _)) h
    ·exact h.mono fun xs h=>zgh (fun m vs h=>h.mono (hk _)) h
    ·exact h.elim
   ·exact h.elim
  ·exact h.elim
 ·exact h.elim
theorem zkV {f : Operand} {args : Array Operand} {K K' : SV->SS->Prop} (hk : ∀ x s,K x s->K' x s) (h : zfc P C st f args K) : zfc P C st f args K':=by
 unfold zfc at *;split at h
 ·split at h
  ·exact h.mono hk
  ·split at h
   ·exact ⟨fun E w hm ro m=>by
     obtain ⟨fn,tmps,assign,body,h1,h2⟩:=h.out E w hm ro m;exact ⟨fn,tmps,assign,body,h1,h2.mono (fun e w' ⟨E',st',x,h3,h4,h5,h6,h7⟩=>⟨E',st',x,h3,h4,h5,h6,hk _ _ h7⟩)⟩⟩
   ·exact h.elim
 ·exact h.elim
theorem OpVC.mono {o : Oper} {K K' : SS->Prop} (hk : ∀ s,K s->K' s) (h : OpVC P C o st K) : OpVC P C o st K' :=
 ⟨fun E a w hr=>let ⟨st',w',E',v,k,r⟩:=h.out E a w hr; ⟨st',w',E',v,hk _ k,r⟩⟩
theorem zqH {o : Oper} {K K' : SS->Prop} (hk : ∀ s,K s->K' s) (h : sopX P T C o st K) : sopX P T C o st K':=by
 unfold sopX at *;split at h
 ·exact OpVC.mono hk h
 ·exact OpVC.mono hk h
 ·exact OpVC.mono hk h
 ·exact zgw (fun _=>hk _) h
 ·split at h
  ·exact zi7 hk h
  ·exact h.elim
 ·split at h
  ·exact zkS hk h
  ·exact h.elim
 ·exact zka (fun _=>hk _) h
 ·exact zll (fun _=>hk _) h
 ·split at h
  ·exact zbE (zpq (fun h=>⟨fun E a w hr=>let ⟨E1,t,hp,h1⟩:=h.out E a w hr; ⟨E1,t,zio hk hp,h1⟩⟩) (zio hk)) h
  ·exact h.elim
 ·exact zkV (fun _ _=>hk _) h
 ·split at h
  ·exact zmd (fun _=>hk _) h
  ·exact h.elim
 ·exact h.elim
theorem zjV {o : Oper} {K K' : SS->Prop} (hk : ∀ s,K s->K' s) (h : sop P T C o st K) : sop P T C o st K':=by
 unfold sop at *
 cases hd : zby C.N o.dst with
 | false=>rw [hd] at h; exact h.elim
 | true =>
  rw [hd] at h;simp only [cond_true] at h ⊢;split at h
  ·exact zfq (hk _) h
  ·split at h
   ·exact zfq (hk _) h
   ·exact h.elim
  ·exact zqH hk h
theorem zic {b : Bool} {A A' B B' : Prop} (ha : A->A') (hb : B->B') (h : br b A B) : br b A' B':=by cases b; exact hb h; exact ha h
theorem zeh {all : List Oper} {o : Oper} {K K' : SS->Prop} (hk : ∀ s,K s->K' s) (h : sopG P T C all o st K) : sopG P T C all o st K':=by
 unfold sopG at *;split at h
 ·exact zjV hk h
 ·split at h
  ·rename_i want _ _ t b _
   cases want
   ·exact zic (zbE (hk _)) (zjV hk) h
   ·exact zic (zjV hk) (zbE (hk _)) h
  ·exact zbE (zbE (hk _)) h

def zaC (P : Program) (g : FuncId) (args : List SV) (st : SS) (R : World->Ending->World->Prop) : Prop:=∀ E w,(∀ k mm,args.any (SV.has k)=true->lk k st.me=some mm->MEok E w k mm)->(∀ R∈st.re,R.φ w)->Calls P g (args.map (SV.real E)).toArray w (R w)
def zaR (r : Value) (w : World) (e : Ending) (w' : World) : Prop:=e=.returned r/\Bel w.heap.size w w'
def zbD (t es n : Nat) (xs : List Value) (w : World) (e : Ending) (w' : World) : Prop:=∃ v,e=.returned v/\w'.ownsRow w.heap.size t es v n xs/\Bel w.heap.size w w'
structure zaf (P : Program) (g : FuncId) (args : List SV) (d : Option Tmp) (st : SS) (K : SV->Option ME->Prop) : Prop where
 enters : Enters P g
 out : (∃ r : Value,zaC P g args st (zaR r)/\K (.o (.v r)) none) \/
  (∃ t es n xs,zaC P g args st (zbD t es n xs)/\K (.o (.w (d.getD 0))) (some (.own t es n xs)))

def SS.upd (st : SS) (o : Oper) (x : SV) (m : Option ME) : SS:=match m with
 | none=>st.put o.dst x
 | some mm=>(st.mem (o.dst.getD 0) mm).put o.dst x
def updK (o : Oper) (st : SS) (K : SS->Prop) (x : SV) : Option ME->Prop
 | none=>K (st.put o.dst x)
 | some m=>match o.dst with
  | some d=>bif st.has d then False else K ((st.mem d m).put (some d) x)
  | none=>False

def ztO (P : Program) (T : TT) (o : Oper) (st : SS) (K : SS->Prop) : Prop :=
 match o.op with
 | .load t x=>zdy T st t x (fun v=>K (st.put o.dst v))
 | .call ⟨.value f,args,_⟩=>match evs st args.toList with
  | some l=>match zco (ev st f) l with
   | some (g,l')=>zaf P g l' o.dst st (updK o st K)
   | none=>False
  | none=>False
 | _=>False
def dsop (P : Program) (T : TT) (C : Cx) (o : Oper) (st : SS) (K : SS->Prop) : Prop :=
 bif zby C.N o.dst then
 (match dop T st (o.dst.getD 0) o.op with
 | some (c,none,x)=>andc c (K (st.put o.dst x))
 | some (c,some m,x)=>(match o.dst with
  | some d=>bif st.has d then False else andc c (K ((st.mem d m).put (some d) x))
  | none=>False)
 | none=>ztO P T o st K) else False
def zjM (P : Program) (T : TT) (C : Cx) (all : List Oper) (o : Oper) (st : SS) (K : SS->Prop) : Prop:=match o.guard with
 | none=>dsop P T C o st K
 | some (j,want)=>match gval all st j with
  | some (t,b)=>match want with
   | true=>br b (dsop P T C o (st.put (some t) (.o (.v (.bool true)))) K) (bif zby C.N o.dst then K ((st.put (some t) (.o (.v (.bool false)))).put o.dst (.o (.v undef))) else False)
   | false=>br b (bif zby C.N o.dst then K ((st.put (some t) (.o (.v (.bool true)))).put o.dst (.o (.v undef))) else False) (dsop P T C o (st.put (some t) (.o (.v (.bool false)))) K)
  | none=>bif gund all st j then (bif zby C.N o.dst then K (st.put o.dst (.o (.v undef))) else False) else False
def zgH (ops : Array Oper) : Nat->Nat->Nat->Bool
 | 0,_,_=>false
 | f+1,j,i=>match ops[j]? with
  | some oj=>oj.after.any (fun e=>Region.binds .any e&&(Nat.beq e.on i||zgH ops f e.on i))
  | none=>false
abbrev Late:=List (Nat×Nat×List Nat)
def zdl : Late->Nat->Option Nat
 | [],_=>none
 | (s,k,_)::r,i=>bif Nat.beq s i then some k else zdl r i
def zf6 : Late->Nat->Nat->Bool
 | [],_,_=>false
 | (s,_,fr)::r,j,i=>bif Nat.beq s j then fr.any (Nat.beq i) else zf6 r j i
def zca (T : TT) (st : SS) (o : Oper) (κ : Nat) : Option ME:=match o.op with
 | .store t x y=>match o.dst,o.guard,lk t T,ev st x,ev st y,lk κ st.me with
  | none,none,some e,some (.o (.p k off)),some sv,some (.box cs ty) =>
   bif Nat.beq k κ&&(Nat.beq sv.cells.length e.size&&sv.cells.all oneB)&&Nat.ble (off+e.size) cs.length then some (.box (putN off sv.cells cs) ty) else none
  | _,_,_,_,_,_=>none
 | _=>none
def zoq : Op->Option (List Operand)
 | .alloc _=>some []
 | .move x | .assign x | .box _ x | .load _ x | .unOp _ _ x | .convert _ _ x | .fieldAddr _ x _ | .field _ x _ | .extract x _=>some [x]
 | .pick c a b=>some [c,a,b]
 | .build _ ps | .buildSlice _ _ ps=>some (ps.toList.map (·.2))
 | .binOp _ _ a v _ | .indexAddr _ a v | .index _ a v=>some [a,v]
 | .makeFunc _ first captured=>some (first.toList++captured.toList)
 | .call ⟨.value f,args,_⟩=>some (f::args.toList)
 | .call ⟨.builtin _,args,_⟩=>some args.toList
 | .slice _ x lo hi mx=>some (x::(lo.toList++hi.toList++mx.toList))
 | _=>none
def zfE (st : SS) (o : Oper) (κ : Nat) : Bool:=match zoq o.op with
 | some l=>l.all fun y=>match ev st y with
  | some sv=>!sv.has κ
  | none=>true
 | none=>false
def zfB (late : Late) (i : Nat) (st : SS) (o : Oper) : Bool:=late.all fun e=>!(e.2.2.any (Nat.beq i))||zfE st o e.2.1
def zjr : Nat->List Oper->List (Nat×Oper)
 | _,[]=>[]
 | k,o::r=>(k,o)::zjr (k+1) r
def isQ (late : Late) (m j : Nat) : Bool:=Nat.blt j (m%4294967296)&&(!(Nat.beq (j+1) (m/4294967296%65536))&&(!(Nat.beq (j+1) (m/281474976710656))&&(zdl late j).isNone))
def dops (P : Program) (T : TT) (C : Cx) (all : List Oper) (late : Late) (m : Nat) : List (Nat×Oper)->SS->(SS->Prop)->Prop
 | [],st,K=>K st
 | (i,o)::r,st,K=>bif isQ late m i then (bif zfB late i st o then zjM P T C all o st (fun st'=>dops P T C all late m r st' K) else False)
  else (match zdl late i with
   | none=>sopG P T C all o st (fun st'=>dops P T C all late m r st' K)
   | some κ=>match zca T st o κ with
    | some mm=>dops P T C all late m r (st.mem κ mm) K
    | none=>False)

def DEff (P : Program) (T : TT) (st : SS) (o : Oper) (x : SV) (m : Option ME) : Prop :=
 (∃ c,dop T st (o.dst.getD 0) o.op=some (c,m,x)/\(∀ p,c=some p->p)/\(m.isSome=true->o.dst.isSome=true/\st.has (o.dst.getD 0)=false)) \/
 (m=none/\∃ t y e A vs,o.op=.load t y/\lk t T=some e/\ev st y=some (.o (.v (.pointer A)))/\vs.length=e.size/\(zbn e.desc=false->e.size=1) /\
  (∀ w,(∀ R∈st.re,R.φ w)->∃ b o,A=some ⟨b,o,none⟩/\∀ j v,vs[j]?=some v->w.cell? ⟨b,o+j,none⟩=some v)/\x=mkV (zbn e.desc) vs) \/
 (m=none/\∃ t y e k off cs l,o.op=.load t y/\lk t T=some e/\ev st y=some (.o (.p k off))/\zl4 st k=some cs/\0<e.size/\l.length=e.size/\(zbn e.desc=false->e.size=1)/\(∀ j x,l[j]?=some x->cs[off+j]?=some x) /\
  x=mkV (zbn e.desc) l) \/
 (m=none/\∃ f args ts l g l' r,o.op=.call ⟨.value f,args,ts⟩/\evs st args.toList=some l/\zco (ev st f) l=some (g,l')/\Enters P g/\x=.o (.v r)/\zaC P g l' st (zaR r)) \/
 (∃ t es n xs,m=some (.own t es n xs)/\o.dst.isSome=true/\st.has (o.dst.getD 0)=false/\∃ f args ts l g l',o.op=.call ⟨.value f,args,ts⟩/\evs st args.toList=some l/\zco (ev st f) l=some (g,l')/\Enters P g/\x=.o (.w (o.dst.getD 0))/\zaC P g l' st (zbD t es n xs))

def GEff (P : Program) (T : TT) (all : List Oper) (st : SS) (o : Oper) (x : SV) (m : Option ME) : Prop:=match o.guard with
 | none=>DEff P T st o x m
 | some (j,want)=>(∃ t b,gval all st j=some (t,b)/\((b=want/\DEff P T st o x m)\/(b≠want/\x=.o (.v undef)/\m=none)))\/(gval all st j=none/\gund all st j=true/\x=.o (.v undef)/\m=none)

theorem znR {o : Oper} {K : SS->Prop} (h : dsop P T C o st K) : zby C.N o.dst=true/\∃ x m,DEff P T st o x m/\K (st.upd o x m):=by
 unfold dsop at h
 cases hd : zby C.N o.dst with
 | false=>rw [hd] at h; exact h.elim
 | true =>
  rw [hd] at h;simp only [cond_true] at h;refine ⟨rfl,?_⟩;split at h
  ·rename_i c x hdop;obtain ⟨hc,hk⟩:=zgS h;exact ⟨x,none,.inl ⟨c,hdop,hc,by simp⟩,hk⟩
  ·rename_i c mm x hdop;split at h
   ·rename_i d hdst
    cases hf : st.has d with
    | true=>rw [hf] at h; exact h.elim
    | false =>
     rw [hf] at h;obtain ⟨hc,hk⟩:=zgS h;exact ⟨x,some mm,.inl ⟨c,hdop,hc,fun _=>by simp [hdst,hf]⟩,by simp only [SS.upd,hdst,zyS]; exact hk⟩
   ·exact h.elim
  ·unfold ztO at h;split at h
   ·rename_i t y hop;unfold zdy at h;split at h
    ·rename_i e A he hy;obtain ⟨vs,h1,h2,h3,h4⟩:=h.out;exact ⟨_,none,.inr (.inl ⟨rfl,t,y,e,A,vs,hop,he,hy,h1,h2,h3,rfl⟩),h4⟩
    ·rename_i e k off he hy;split at h
     ·rename_i cs hr;obtain ⟨h0,l,h1,h2,h3,hk⟩:=h;exact ⟨_,none,.inr (.inr (.inl ⟨rfl,t,y,e,k,off,cs,l,hop,he,hy,hr,h0,h1,h2,h3,rfl⟩)),hk⟩
     ·exact h.elim
    ·exact h.elim
   ·rename_i f args ts hop;split at h
    ·rename_i l hl;split at h
     ·rename_i g l' hcal;rcases h.out with ⟨r,hr,hk⟩ | ⟨t,es,n,xs,hr,hk⟩
      ·exact ⟨_,none,.inr (.inr (.inr (.inl ⟨rfl,f,args,ts,l,g,l',r,hop,hl,hcal,h.enters,rfl,hr⟩))),hk⟩
      ·unfold updK at hk;split at hk
       ·rename_i hcontra; cases hcontra
       ·rename_i mm hmm
        cases hmm
        split at hk
        ·rename_i d hdst
         cases hf : st.has d with
         | true=>rw [hf] at hk; exact hk.elim
         | false =>
          rw [hf] at hk;exact ⟨_,_,.inr (.inr (.inr (.inr ⟨t,es,n,xs,rfl,by rw [hdst]; rfl,by rw [hdst]; exact hf,f,args,ts,l,g,l',hop,hl,hcal,h.enters,rfl,hr⟩))),by simp only [SS.upd,hdst,zyS] at hk ⊢; exact hk⟩
        ·exact hk.elim
     ·exact h.elim
    ·exact h.elim
   ·exact h.elim

theorem zaV.act (h : zaV C E st.me st.re w) : SRE C E { st with tm:=[] } { tmps:=Array.replicate C.N undef,defers:=[] } w :=
 ⟨by simp,⟨[],rfl,List.nodup_nil,by simp⟩,fun _ _ hh=>by simp [lk] at hh,h⟩
theorem zaV.own (h : zaV C E st.me st.re w) {d : Nat} (hd : zby C.N (some d)=true) (hf : st.has d=false) {w' : World} (hb : Bel w.heap.size w w') {v : Value} {t es n : Nat} {xs : List Value} (hown : w'.ownsRow w.heap.size t es v n xs) :
  zaV C (zaz E d v) ((d,.own t es n xs)::st.me) st.re w':=by
 have hblk : ∀ b,v.ownBlock=some b->w.heap.size<=b:=fun b hb=>by
  obtain ⟨_,⟨rfl,_⟩ | ⟨g,cap,cur,rfl,h3,_⟩⟩:=hown
  ·cases hb
  ·cases hb; exact h3
 have hown0 : w'.ownsRow 0 t es v n xs:=by
  obtain ⟨h1,h2 | ⟨g,cap,cur,h2,_,h4⟩⟩:=hown
  ·exact ⟨h1,.inl h2⟩
  ·exact ⟨h1,.inr ⟨g,cap,cur,h2,zyD _,h4⟩⟩
 have hfe : ({ st with tm:=[] } : SS).has d=false:=by
  unfold SS.has at hf ⊢;rw [zxD] at hf;simp only [zyn,zxU];exact hf.2
 exact ((zaV.act h).own hd hfe (kk:=none) (row:=none) hb.drawn ⟨hb.os,hb.tape,hb.output,hb.size,fun k hk _=>hb.block k hk⟩ (fun b hb=>by cases hb) hown0 (fun b hb=>.inl (hblk b hb))).mem

theorem DEff.sound (hT : zaY P T) (h : SRE C E st a w) {o : Oper} {x : SV} {m : Option ME} (hd : zby C.N o.dst=true) (he : DEff P T st o x m) {next : Act->World->Prop} {Q : Exit->Act->World->Prop}
  (hK : ∀ a' w',SR C (st.upd o x m) a' w'->next a' w') : o.wpIn (FW ro) n P a w next Q:=by
 have hs : sop P T C o st (fun s=>s=st.upd o x m):=by
  unfold sop;rw [hd];simp only [cond_true];have nodop : ∀ {op : Op},o.op=op->(∀ d,dop T st d op=none)->dop T st (o.dst.getD 0) o.op=none:=fun h1 h2=>by rw [h1]; exact h2 _
  rcases he with ⟨c,hdop,hc,hm⟩ | ⟨rfl,t,y,e,A,vs,hop,ht,hy,h1,h2,h3,rfl⟩ | ⟨rfl,t,y,e,k,off,cs,l,hop,ht,hy,hme,h0,h1,h2,h3,rfl⟩ | ⟨rfl,f,args,ts,l,g,l',r,hop,hl,hcal,hE,rfl,hr⟩ | ⟨t,es,nn,xs,rfl,hds,hfr,f,args,ts,l,g,l',hop,hl,hcal,hE,rfl,hr⟩
  ·rw [hdop];have hand : ∀ {K : Prop},K->andc c K:=fun hk=>by
    cases c with
    | none=>exact hk
    | some p=>exact ⟨hc p rfl,hk⟩
   cases m with
   | none=>exact hand rfl
   | some mm =>
    obtain ⟨d,hdst⟩:=zx5.1 (hm rfl).1;simp only [hdst];exact hand (by simp [SS.upd,hdst])
  ·rw [nodop hop (fun d=>by simp [dop,ht,hy])];simp only [sopX,hop,zdy,ht,hy];exact ⟨vs,h1,h2,h3,rfl⟩
  ·have hnb : ∀ d,dop T st d (.load t y)=none:=fun d=>by
    unfold zl4 at hme;split at hme
    ·rename_i hm; simp [dop,ht,hy,hm]
    ·rename_i hm; simp [dop,ht,hy,hm]
    ·cases hme
   rw [nodop hop hnb];simp only [sopX,hop,zdy,ht,hy,hme];exact ⟨h0,l,h1,h2,h3,rfl⟩
  ·rw [nodop hop (fun d=>by simp [dop])];simp only [sopX,hop,zfc,hl,hcal];refine ⟨hE,fun E1 w1 hmem=>(hr E1 w1 (fun k mm _ hk=>hmem.ent k mm hk) (fun R hR=>(hmem.res R hR).2.1)).mono ?_⟩;rintro e w' ⟨rfl,hb⟩;exact ⟨E1,st,.o (.v r),rfl,hmem.world (st:=st) hb,zxu hb,fun i sv hi=>⟨sv,hi,rfl⟩,rfl⟩
  ·rw [nodop hop (fun d=>by simp [dop])];simp only [sopX,hop,zfc,hl,hcal];obtain ⟨d,hdst⟩:=zx5.1 hds;rw [hdst] at hfr hd;simp only [zyS] at hfr;refine ⟨hE,fun E1 w1 hmem=>(hr E1 w1 (fun k mm _ hk=>hmem.ent k mm hk) (fun R hR=>(hmem.res R hR).2.1)).mono ?_⟩;rintro e w' ⟨v,rfl,hown,hb⟩;obtain ⟨hbut,hreal,_⟩:=zcz (E:=E1) (d:=d) hown;refine ⟨zaz E1 d v,st.mem d (.own t es nn xs),.o (.w d),by rw [show (SV.o (.w d)).real (zaz E1 d v)=v from hreal],zaV.own (st:=st) hmem hd hfr hb hown,zxu hb,fun i sv hi=>⟨sv,hi,zxn hbut (zxC hfr hi)⟩,?_⟩;simp only [SS.upd,hdst,zyS]
 exact zfG hT h hs (fun st' a' w' hk hr=>by subst hk; exact hK a' w' hr)

end
abbrev zyX:=@Array.getElem?_eq_none
abbrev zyW:=@Nat.lt_or_ge
abbrev zyV:=@Bool.eq_iff_iff
abbrev zyU:=@List.mem_filterMap
abbrev zyT:=@List.mem_append_left

structure Eqv (st st' : SS) : Prop where
 tm : ∀ i,lk i st'.tm=lk i st.tm
 me : ∀ k,lk k st'.me=lk k st.me
 re : st'.re=st.re
 has : ∀ k,st'.has k=st.has k

theorem Eqv.refl (st : SS) : Eqv st st:=⟨fun _=>rfl,fun _=>rfl,rfl,fun _=>rfl⟩
theorem Eqv.symm {st st' : SS} (h : Eqv st st') : Eqv st' st:=⟨fun i=>(h.tm i).symm,fun k=>(h.me k).symm,h.re.symm,fun k=>(h.has k).symm⟩
theorem Eqv.ev {st st' : SS} (h : Eqv st st') (x : Operand) : Sx.ev st' x=Sx.ev st x:=by cases x <;> simp only [Sx.ev,h.tm]
theorem Eqv.same {st st' : SS} (h : Eqv st st') (xs : List Operand) : Same st st' xs:=⟨fun x _=>h.ev x,fun _ _ _ k _ _=>h.me k⟩
theorem Eqv.gund {st st' : SS} (h : Eqv st st') (all : List Oper) (j : Nat) : Sx.gund all st' j=Sx.gund all st j:=by unfold Sx.gund; simp only [h.tm]
theorem Eqv.gval {st st' : SS} (h : Eqv st st') (all : List Oper) (j : Nat) : Sx.gval all st' j=Sx.gval all st j:=by unfold Sx.gval; simp only [h.tm]

theorem SRE.eqv {C : Cx} {E : Env} {st st' : SS} {a : Act} {w : World} (h : SRE C E st a w) (e : Eqv st st') : SRE C E st' a w:=by
 refine ⟨h.size,h.defers,fun i sv hi=>h.tm i sv (by rw [<-e.tm]; exact hi),⟨fun k m hk=>h.mem.ent k m (by rw [<-e.me]; exact hk),fun k m b hk=>h.mem.ge k m b (by rw [<-e.me]; exact hk),
   fun k k' m m' b hk hk'=>h.mem.inj k k' m m' b (by rw [<-e.me]; exact hk) (by rw [<-e.me]; exact hk'),fun R hR=>?_,h.mem.ext,fun j b m hX hj=>h.mem.rig j b m hX (by rw [<-e.me]; exact hj)⟩⟩
 obtain ⟨r1,r2,r3⟩:=h.mem.res R (by rw [<-e.re]; exact hR);exact ⟨r1,r2,fun b hb=>⟨(r3 b hb).1,fun k m hk=>(r3 b hb).2 k m (by rw [<-e.me]; exact hk)⟩⟩
theorem SR.eqv {C : Cx} {st st' : SS} {a : Act} {w : World} (h : SR C st a w) (e : Eqv st st') : SR C st' a w:=let ⟨E,h⟩:=h; ⟨E,h.eqv e⟩

theorem zey (st : SS) (d : Option Tmp) (x : SV) (k : Nat) : (st.put d x).has k=((d.isSome&&x.has k)||st.has k):=by
 cases d <;> simp [SS.put,SS.has,Bool.or_assoc]
theorem ze9 (st : SS) (d : Nat) (m : ME) (k : Nat) : (st.mem d m).has k=((Nat.beq d k||m.has k)||st.has k):=by
 simp only [SS.mem,SS.has,zxN]
 cases st.tm.any (fun e=>e.2.has k) <;> simp

theorem Eqv.put {st st' : SS} (h : Eqv st st') (d : Option Tmp) (x : SV) : Eqv (st.put d x) (st'.put d x):=by
 cases d with
 | none=>exact h
 | some i=>exact ⟨fun j=>by simp only [SS.put,zaB,h.tm],h.me,h.re,fun k=>by rw [zey,zey,h.has]⟩
theorem Eqv.mem {st st' : SS} (h : Eqv st st') (d : Nat) (m : ME) : Eqv (st.mem d m) (st'.mem d m) :=
 ⟨h.tm,fun j=>by simp only [SS.mem,zaB,h.me],h.re,fun k=>by rw [ze9,ze9,h.has]⟩
theorem Eqv.upd {st st' : SS} (h : Eqv st st') (o : Oper) (x : SV) (m : Option ME) : Eqv (st.upd o x m) (st'.upd o x m):=by
 cases m with
 | none=>exact h.put _ _
 | some m=>exact (h.mem _ _).put _ _
theorem Eqv.redo {st : SS} {t : Nat} {b : Bool} (hl : lk t st.tm=some (.o (.v (.bool b)))) : Eqv st (st.put (some t) (.o (.v (.bool b)))) :=
 ⟨fun i=>by simp only [SS.put,zaB]; split; (rename_i e; subst e; exact hl.symm); rfl,fun _=>rfl,rfl,fun k=>by rw [zey]; rfl⟩

theorem zt7 {st : SS} {o : Oper} {x : SV} {m : Option ME} {k : Nat} (hx : o.dst.isSome=true->x.has k=false) (hm : ∀ y,m=some y->y.has k=false) (hd : m.isSome=true->o.dst.getD 0≠k) : (st.upd o x m).has k=st.has k:=by
 cases m with
 | none =>
  simp only [SS.upd,zey]
  cases h : o.dst.isSome with
  | false=>simp
  | true=>simp [hx h]
 | some m =>
  simp only [SS.upd,zey,ze9,hm m rfl,zaH.2 (hd rfl)]
  cases h : o.dst.isSome with
  | false=>simp
  | true=>simp [hx h]

section
variable {P : Program} {T : TT} {C : Cx}

theorem zn3 {st : SS} {f : Operand} {args : List Operand} {l l' : List SV} {g : FuncId} (hl : evs st args=some l) (hc : zco (ev st f) l=some (g,l')) {k : Nat} (hk : l'.any (SV.has k)=true) :
  ∃ y∈f::args,∃ sv,ev st y=some sv/\sv.has k=true:=by
 have hargs : ∀ {args : List Operand} {l : List SV},evs st args=some l->l.any (SV.has k)=true->∃ y∈args,∃ sv,ev st y=some sv/\sv.has k=true:=by
  intro args
  induction args with
  | nil=>intro l hl hk; simp only [evs,zxq] at hl; subst hl; simp at hk
  | cons y r ih =>
   intro l hl hk;simp only [evs] at hl;split at hl
   ·rename_i sv l0 hy hr
    cases hl
    simp only [zxN,zxF] at hk;rcases hk with hk | hk
    ·exact ⟨y,by simp,sv,hy,hk⟩
    ·obtain ⟨z,hz,h⟩:=ih hr hk; exact ⟨z,zxB _ hz,h⟩
   ·cases hl
 have hv : ∀ vs : List Value,(vsv vs).any (SV.has k)=false:=by
  intro vs; induction vs with
  | nil=>rfl
  | cons v r ih=>simp [vsv,SV.has,AV.has,ih]
 have hcv : ∀ cs : List CP,(csv cs).any (SV.has k)=cs.any (CP.has k):=by
  intro cs; induction cs with
  | nil=>rfl
  | cons c r ih=>cases c <;> simp [csv,SV.has,AV.has,CP.has,ih]
 unfold zco at hc;split at hc
 ·rename_i g' first caps hf
  cases hc
  rw [za4,za4,zya,zya,hv,hv] at hk;simp only [zxU,zxO] at hk;obtain ⟨y,hy,h⟩:=hargs hl hk;exact ⟨y,zxB _ hy,h⟩
 ·rename_i g' caps hf
  cases hc
  rw [za4,zya,hcv] at hk;simp only [zxF] at hk;rcases hk with hk | hk
  ·obtain ⟨y,hy,h⟩:=hargs hl hk; exact ⟨y,zxB _ hy,h⟩
  ·exact ⟨f,by simp,_,hf,hk⟩
 ·cases hc

theorem AV.has_big : ∀ x : AV,∃ B,∀ k,B<=k->x.has k=false
 | .v _=>⟨0,fun _ _=>rfl⟩
 | .p j _=>⟨j+1,fun k h=>zaH.2 (by omega)⟩
 | .s j _ _ _=>⟨j+1,fun k h=>zaH.2 (by omega)⟩
 | .w j=>⟨j+1,fun k h=>zaH.2 (by omega)⟩
 | .tu xs=>by
  have : ∀ l : List TP,∃ B,∀ k,B<=k->l.any (TP.has k)=false:=by
   intro l
   induction l with
   | nil=>exact ⟨0,fun _ _=>rfl⟩
   | cons c r ih =>
    obtain ⟨B,hB⟩:=ih
    cases c with
    | e x=>exact ⟨B,fun k h=>by simp [TP.has,hB k h]⟩
    | p j _=>exact ⟨max B (j+1),fun k h=>by simp only [zxN,hB k (by omega),TP.has,zxO]; exact zaH.2 (by omega)⟩
    | s j _ _ _=>exact ⟨max B (j+1),fun k h=>by simp only [zxN,hB k (by omega),TP.has,zxO]; exact zaH.2 (by omega)⟩
    | w j=>exact ⟨max B (j+1),fun k h=>by simp only [zxN,hB k (by omega),TP.has,zxO]; exact zaH.2 (by omega)⟩
  exact this xs
 | .clo _ caps=>by
  have : ∀ l : List CP,∃ B,∀ k,B<=k->l.any (CP.has k)=false:=by
   intro l
   induction l with
   | nil=>exact ⟨0,fun _ _=>rfl⟩
   | cons c r ih =>
    obtain ⟨B,hB⟩:=ih
    cases c with
    | e x=>exact ⟨B,fun k h=>by simp [CP.has,hB k h]⟩
    | l j=>exact ⟨max B (j+1),fun k h=>by simp only [zxN,hB k (by omega),CP.has,zxO]; exact zaH.2 (by omega)⟩
  exact this caps
theorem zh5 {α : Type} (f : Nat->α->Bool) (hf : ∀ x,∃ B,∀ k,B<=k->f k x=false) : ∀ l : List α,∃ B,∀ k,B<=k->l.any (f k)=false
 | []=>⟨0,fun _ _=>rfl⟩
 | x::r=>by
  obtain ⟨B,hB⟩:=zh5 f hf r;obtain ⟨B',hB'⟩:=hf x;exact ⟨max B B',fun k h=>by simp only [zxN,hB k (by omega),hB' k (by omega),zxO]⟩
theorem SV.has_big : ∀ x : SV,∃ B,∀ k,B<=k->x.has k=false
 | .o x=>x.has_big
 | .a xs=>zh5 AV.has AV.has_big xs
theorem ME.has_big : ∀ x : ME,∃ B,∀ k,B<=k->x.has k=false
 | .box cs _=>zh5 AV.has AV.has_big cs
 | .sym _ _=>⟨0,fun _ _=>rfl⟩
 | .own _ _ _ _=>⟨0,fun _ _=>rfl⟩
theorem SS.has_big (st : SS) : ∃ B,∀ k,B<=k->st.has k=false:=by
 obtain ⟨B,hB⟩:=zh5 (fun k (e : Nat×SV)=>e.2.has k) (fun e=>e.2.has_big) st.tm;obtain ⟨B',hB'⟩:=zh5 (fun k (e : Nat×ME)=>Nat.beq e.1 k||e.2.has k) (fun e=>by
  obtain ⟨B,hB⟩:=e.2.has_big;exact ⟨max B (e.1+1),fun k h=>by simp only [hB k (by omega),zaH.2 (show e.1≠k by omega),zxO]⟩) st.me
 exact ⟨max B B',fun k h=>by simp only [SS.has,hB k (by omega),hB' k (by omega),zxO]⟩
theorem znU (st st' : SS) : ∃ z,st.has z=false/\st'.has z=false:=by
 obtain ⟨B,hB⟩:=st.has_big;obtain ⟨B',hB'⟩:=st'.has_big;exact ⟨max B B',hB _ (by omega),hB' _ (by omega)⟩

theorem zj4 {st : SS} {d d' : Nat} {op : Op} {x : SV} {c : Option Prop} (h : dop T st d op=some (c,none,x)) : dop T st d' op=some (c,none,x):=by
 have hdn : ∀ {d m0 y},dn st d m0 y=some (c,none,x)->False:=fun h=>by obtain ⟨_,h2,_⟩:=zhz h; cases h2
 cases op
 case alloc t =>
  simp only [dop] at h;split at h
  ·exact (hdn h).elim
  ·cases h
 case box t y =>
  simp only [dop] at h;split at h
  ·exact (hdn h).elim
  ·cases h
 case buildSlice t n ps =>
  simp only [dop] at h;split at h
  ·split at h
   ·split at h
    ·rename_i ee _
     cases hb : (Nat.ble (n*ee.size) 1000&&Nat.beq ee.zero.cells.toList.length ee.size) with
     | false=>rw [hb] at h; cases h
     | true =>
      rw [hb] at h;simp only [cond_true] at h;split at h
      ·exact (hdn h).elim
      ·cases h
    ·cases h
   ·cases h
  ·cases h
 case makeFunc fn first captured=>cases fn <;> exact h
 case call c=>obtain ⟨zco,args,ts⟩:=c; cases zco <;> exact h
 all_goals exact h

theorem zeF {st st' : SS} {f : Operand} {args : Array Operand} {ts : Array TypeId} {l l' : List SV} {g : FuncId} (hs : Same st st' (Op.call ⟨.value f,args,ts⟩).operands.toList) (hl : evs st args.toList=some l) (hcal : zco (ev st f) l=some (g,l')) :
  evs st' args.toList=some l/\zco (ev st' f) l=some (g,l'):=by
 have hs' : Same st st' (f::args.toList):=hs.mono (fun y hy=>by simpa [Op.operands,Call.operands] using hy);have hs'' : Same st st' args.toList:=hs'.mono (fun y hy=>zxB _ hy);exact ⟨(zko hs'').trans hl,by rw [hs'.ev f (by simp)]; exact hcal⟩
theorem zaC.congr {st st' : SS} {f : Operand} {args : Array Operand} {ts : Array TypeId} {l l' : List SV} {g : FuncId} {R : World->Ending->World->Prop} (hr : zaC P g l' st R) (hs : Same st st' (Op.call ⟨.value f,args,ts⟩).operands.toList)
  (hl : evs st args.toList=some l) (hcal : zco (ev st f) l=some (g,l')) (hre : st'.re=st.re) : zaC P g l' st' R:=by
 have hs' : Same st st' (f::args.toList):=hs.mono (fun y hy=>by simpa [Op.operands,Call.operands] using hy);refine fun E w hmem hR=>hr E w (fun k mm hk hkm=>hmem k mm hk ?_) (by rw [<-hre]; exact hR)
 obtain ⟨y,hy,sv,hsv,hhas⟩:=zn3 hl hcal hk;rw [hs'.me y hy sv k hsv hhas]; exact hkm

theorem DEff.congr {st st' : SS} {o : Oper} {x : SV} {m : Option ME} (hs : Same st st' o.op.operands.toList) (hre : st'.re=st.re) (hd : m.isSome=true->st'.has (o.dst.getD 0)=st.has (o.dst.getD 0)) (h : DEff P T st o x m) : DEff P T st' o x m:=by
 rcases h with ⟨c,hdop,hc,hm⟩ | ⟨rfl,t,y,e,A,vs,hop,ht,hy,h1,h2,h3,rfl⟩ | ⟨rfl,t,y,e,k,off,cs,l,hop,ht,hy,hme,h0,h1,h2,h3,rfl⟩ | ⟨rfl,f,args,ts,l,g,l',r,hop,hl,hcal,hE,rfl,hr⟩ | ⟨t,es,nn,xs,rfl,hds,hfr,f,args,ts,l,g,l',hop,hl,hcal,hE,rfl,hr⟩
 ·cases m with
  | some mm=>exact .inl ⟨c,(zke hs (hd rfl)).trans hdop,hc,fun h=>⟨(hm h).1,(hd rfl).trans (hm h).2⟩⟩
  | none =>
   obtain ⟨z,hz1,hz2⟩ : ∃ z,st.has z=false/\st'.has z=false:=znU st st';exact .inl ⟨c,zj4 ((zke hs (hz2.trans hz1.symm)).trans (zj4 (d':=z) hdop)),hc,fun h=>by cases h⟩
 ·rw [hop] at hs;exact .inr (.inl ⟨rfl,t,y,e,A,vs,hop,ht,(hs.ev y (by simp [Op.operands])).trans hy,h1,h2,by rw [hre]; exact h3,rfl⟩)
 ·rw [hop] at hs;have hrow : zl4 st' k=some cs:=by
   have:=hs.me y (by simp [Op.operands]) _ k hy (zdF _ _);unfold zl4 at hme ⊢;rw [this]; exact hme
  exact .inr (.inr (.inl ⟨rfl,t,y,e,k,off,cs,l,hop,ht,(hs.ev y (by simp [Op.operands])).trans hy,hrow,h0,h1,h2,h3,rfl⟩))
 ·rw [hop] at hs;exact .inr (.inr (.inr (.inl ⟨rfl,f,args,ts,l,g,l',r,hop,(zeF hs hl hcal).1,(zeF hs hl hcal).2,hE,rfl,hr.congr hs hl hcal hre⟩)))
 ·rw [hop] at hs;exact .inr (.inr (.inr (.inr ⟨t,es,nn,xs,rfl,hds,(hd rfl).trans hfr,f,args,ts,l,g,l',hop,(zeF hs hl hcal).1,(zeF hs hl hcal).2,hE,rfl,hr.congr hs hl hcal hre⟩)))

theorem zpl {agg : Bool} {vs : List Value} (k : Nat) : (mkV agg vs).has k=false:=by
 unfold mkV
 cases agg
 ·simp only [cond_false]; split <;> rfl
 ·rfl
theorem DEff.has {st : SS} {o : Oper} {x : SV} {m : Option ME} (h : DEff P T st o x m) {k : Nat} (hk : st.has k=false) (hkd : m.isSome=true->k≠o.dst.getD 0) : zgy k m x:=by
 rcases h with ⟨c,hdop,hc,hm⟩ | ⟨rfl,t,y,e,A,vs,hop,ht,hy,h1,h2,h3,rfl⟩ | ⟨rfl,t,y,e,j,off,cs,l,hop,ht,hy,hme,h0,h1,h2,h3,rfl⟩ | ⟨rfl,f,args,ts,l,g,l',r,hop,hl,hcal,hE,rfl,hr⟩ | ⟨t,es,nn,xs,rfl,hds,hfr,f,args,ts,l,g,l',hop,hl,hcal,hE,rfl,hr⟩
 ·cases m with
  | some mm=>exact zoT hdop hk (hkd rfl)
  | none=>exact zoT (zj4 (d':=k+1) hdop) hk (by omega)
 ·exact ⟨zpl k,fun _ h=>by cases h⟩
 ·exact ⟨zpl k,fun _ h=>by cases h⟩
 ·exact ⟨rfl,fun _ h=>by cases h⟩
 ·exact ⟨zaH.2 (fun e=>hkd rfl e.symm),fun y h=>by cases h; rfl⟩

theorem GEff.has {all : List Oper} {st : SS} {o : Oper} {x : SV} {m : Option ME} (h : GEff P T all st o x m) {k : Nat} (hk : st.has k=false) (hkd : m.isSome=true->k≠o.dst.getD 0) : zgy k m x:=by
 unfold GEff at h;split at h
 ·exact h.has hk hkd
 ·obtain ⟨t,b,_,⟨_,h⟩ | ⟨_,rfl,rfl⟩⟩ | ⟨_,_,rfl,rfl⟩:=h
  ·exact h.has hk hkd
  ·exact ⟨rfl,fun _ h=>by cases h⟩
  ·exact ⟨rfl,fun _ h=>by cases h⟩
theorem DEff.dst {st : SS} {o : Oper} {x : SV} {m : Option ME} (h : DEff P T st o x m) (hm : m.isSome=true) : o.dst.isSome=true:=by
 rcases h with ⟨c,hdop,hc,hd⟩ | ⟨rfl,_⟩ | ⟨rfl,_⟩ | ⟨rfl,_⟩ | ⟨t,es,nn,xs,rfl,hds,hfr,_⟩
 ·exact (hd hm).1
 ·cases hm
 ·cases hm
 ·cases hm
 ·exact hds
theorem DEff.fresh {st : SS} {o : Oper} {x : SV} {m : Option ME} (h : DEff P T st o x m) (hm : m.isSome=true) : st.has (o.dst.getD 0)=false:=by
 rcases h with ⟨c,hdop,hc,hd⟩ | ⟨rfl,_⟩ | ⟨rfl,_⟩ | ⟨rfl,_⟩ | ⟨t,es,nn,xs,rfl,hds,hfr,_⟩
 ·exact (hd hm).2
 ·cases hm
 ·cases hm
 ·cases hm
 ·exact hfr

theorem zqW {ops : Array Oper} {st : SS} {j t : Nat} {b : Bool} (hg : gval ops.toList st j=some (t,b)) : (ops[j]?).bind (·.dst)=some t/\lk t st.tm=some (.o (.v (.bool b))):=by
 unfold gval at hg;split at hg
 ·rename_i oj hj;split at hg
  ·rename_i t' hd;split at hg
   ·rename_i b' hl
    cases hg
    rw [zdc,zys] at hj;exact ⟨by simp [hj,hd],hl⟩
   ·cases hg
  ·cases hg
 ·cases hg

theorem GEff.eqv {all : List Oper} {st st' : SS} {o : Oper} {x : SV} {m : Option ME} (h : GEff P T all st o x m) (e : Eqv st st') : GEff P T all st' o x m:=by
 unfold GEff at *;split at h
 ·exact h.congr (e.same _) e.re (fun _=>e.has _)
 ·obtain ⟨t,b,hg,h⟩ | ⟨h0,h1,h2⟩:=h
  ·exact .inl ⟨t,b,(e.gval _ _).trans hg,h.imp (fun ⟨h1,h2⟩=>⟨h1,h2.congr (e.same _) e.re (fun _=>e.has _)⟩) id⟩
  ·exact .inr ⟨(e.gval _ _).trans h0,(e.gund _ _).trans h1,h2⟩

theorem zjP {ops : Array Oper} {st : SS} {oi oj : Oper} {x : SV} {m : Option ME} (hap : ∀ d,oi.dst=some d->d ∉ oj.looksAt ops) (hfr : m.isSome=true->st.has (oi.dst.getD 0)=false) :
  Same st (st.upd oi x m) oj.op.operands.toList:=by
 have hlk : ∀ t : Nat,Operand.tmp t∈oj.op.operands.toList->oi.dst≠some t:=by
  intro t ht hd;refine hap t hd ?_;unfold Oper.looksAt;exact zyT _ (zyU.2 ⟨.tmp t,ht,rfl⟩)
 have htm : ∀ t : Nat,oi.dst≠some t->lk t (st.upd oi x m).tm=lk t st.tm:=by
  intro t ht
  cases m <;> cases hd : oi.dst <;> simp only [SS.upd,SS.put,SS.mem,hd]
  ·rw [zaB,zxI (fun e=>ht (by rw [hd,e]))]
  ·rw [zaB,zxI (fun e=>ht (by rw [hd,e]))]
 refine ⟨fun y hy=>?_,fun y hy sv k hsv hk=>?_⟩
 ·cases y with
  | tmp t=>exact htm t (hlk t hy)
  | _=>rfl
 ·cases m with
  | none=>cases hd : oi.dst <;> simp [SS.upd,SS.put,hd]
  | some mm =>
   have hne : k≠oi.dst.getD 0:=by
    intro e;have:=zcC (hfr rfl) hsv;rw [<-e,hk] at this; cases this
   cases hd : oi.dst <;> simp only [SS.upd,SS.put,SS.mem,hd,zaB]
   ·rw [zxI (by rw [hd] at hne; exact hne)]
   ·rw [zxI (by rw [hd] at hne; exact hne)]

theorem GEff.fresh {all : List Oper} {st : SS} {o : Oper} {x : SV} {m : Option ME} (h : GEff P T all st o x m) (hm : m.isSome=true) : o.dst.isSome=true/\st.has (o.dst.getD 0)=false:=by
 unfold GEff at h;split at h
 ·exact ⟨h.dst hm,h.fresh hm⟩
 ·obtain ⟨t,b,_,⟨_,h⟩ | ⟨_,rfl,rfl⟩⟩ | ⟨_,_,rfl,rfl⟩:=h
  ·exact ⟨h.dst hm,h.fresh hm⟩
  ·cases hm
  ·cases hm

theorem GEff.upd_iff {ops : Array Oper} {st : SS} {oi oj : Oper} {x y : SV} {m q : Option ME} (hap : ∀ d,oi.dst=some d->d ∉ oj.looksAt ops) (hne : ∀ d,oi.dst=some d->oj.dst≠some d)
  (hi : GEff P T ops.toList st oi x m) : GEff P T ops.toList (st.upd oi x m) oj y q↔GEff P T ops.toList st oj y q:=by
 have hfr:=fun hm=>(hi.fresh hm).2
 have hs:=zjP (st:=st) (x:=x) hap hfr;have hre : (st.upd oi x m).re=st.re:=by cases m <;> cases hd : oi.dst <;> simp [SS.upd,SS.put,SS.mem,hd]
 have hs' : Same (st.upd oi x m) st oj.op.operands.toList:=by
  refine ⟨fun z hz=>(hs.ev z hz).symm,fun z hz sv k hsv hk=>(hs.me z hz sv k ((hs.ev z hz).symm.trans hsv) hk).symm⟩
 have hhas : oj.dst.isSome=true->(st.upd oi x m).has (oj.dst.getD 0)=st.has (oj.dst.getD 0):=by
  intro hj;obtain ⟨dj,hdj⟩:=zx5.1 hj;rw [hdj];simp only [zyS];have hdne : m.isSome=true->oi.dst.getD 0≠dj:=by
   intro hm e;obtain ⟨di,hdi⟩:=zx5.1 (hi.fresh hm).1;rw [hdi] at e;exact hne di hdi (by rw [hdj,<-e]; rfl)
  cases hst : st.has dj with
  | false =>
   have hn:=hi.has hst (fun hm e=>hdne hm e.symm);rw [zt7 (fun _=>hn.1) hn.2 hdne,hst]
  | true=>cases m <;> simp [SS.upd,zey,ze9,hst]
 have hgv : ∀ (g : Nat) (want : Bool),oj.guard=some (g,want)->gval ops.toList (st.upd oi x m) g=gval ops.toList st g/\gund ops.toList (st.upd oi x m) g=gund ops.toList st g:=by
  intro g want hg;have hlk : ∀ t : Nat,(ops[g]?).bind (·.dst)=some t->lk t (st.upd oi x m).tm=lk t st.tm:=by
   intro t ht;have : oi.dst≠some t:=fun hd=>hap t hd (by unfold Oper.looksAt; simp [hg,ht])
   cases m <;> cases hd : oi.dst <;> simp only [SS.upd,SS.put,SS.mem,hd]
   ·rw [zaB,zxI (fun e=>this (by rw [hd,e]))]
   ·rw [zaB,zxI (fun e=>this (by rw [hd,e]))]
  unfold gval gund;rw [zdc,zys]
  cases hg2 : ops[g]? with
  | none=>exact ⟨rfl,rfl⟩
  | some og =>
   simp only
   cases hd2 : og.dst with
   | none=>exact ⟨rfl,rfl⟩
   | some t=>simp only; rw [hlk t (by simp [hg2,hd2])]; exact ⟨rfl,rfl⟩
 have hD : DEff P T (st.upd oi x m) oj y q↔DEff P T st oj y q :=
  ⟨fun h=>h.congr hs' hre.symm (fun hq=>(hhas (h.dst hq)).symm),fun h=>h.congr hs hre (fun hq=>hhas (h.dst hq))⟩
 unfold GEff
 cases hg : oj.guard with
 | none=>exact hD
 | some p =>
  obtain ⟨g,want⟩:=p;simp only [(hgv g want hg).1,(hgv g want hg).2,hD]

theorem zsw {st : SS} {oi oj : Oper} {x y : SV} {m q : Option ME} (hne : ∀ d,oi.dst=some d->oj.dst≠some d) (hm : m.isSome=true->oi.dst.isSome=true) (hq : q.isSome=true->oj.dst.isSome=true) :
  Eqv ((st.upd oi x m).upd oj y q) ((st.upd oj y q).upd oi x m):=by
 have hre : ∀ (st : SS) (o : Oper) (x : SV) (m : Option ME),(st.upd o x m).re=st.re:=fun st o x m=>by cases m <;> cases hd : o.dst <;> simp [SS.upd,SS.put,SS.mem,hd]
 have htm : ∀ (st : SS) (o : Oper) (x : SV) (m : Option ME) (k : Nat),lk k (st.upd o x m).tm=if o.dst=some k then some x else lk k st.tm:=fun st o x m k=>by
  cases m <;> cases hd : o.dst <;> simp only [SS.upd,SS.put,SS.mem,hd]
  ·simp
  ·rw [zaB]; simp only [zxq]; rename_i d; by_cases e : k=d
   ·rw [zxJ e,zxJ e.symm]
   ·rw [zxI e,zxI (fun h=>e h.symm)]
  ·simp
  ·rw [zaB]; simp only [zxq]; rename_i d; by_cases e : k=d
   ·rw [zxJ e,zxJ e.symm]
   ·rw [zxI e,zxI (fun h=>e h.symm)]
 have hme : ∀ (st : SS) (o : Oper) (x : SV) (m : Option ME) (k : Nat),lk k (st.upd o x m).me=match m with | none=>lk k st.me | some mm=>if k=o.dst.getD 0 then some mm else lk k st.me:=fun st o x m k=>by
  cases m <;> cases hd : o.dst <;> simp only [SS.upd,SS.put,SS.mem,hd] <;> rw [zaB] <;> simp
 refine ⟨fun k=>?_,fun k=>?_,by rw [hre,hre,hre,hre],fun k=>?_⟩
 ·rw [htm,htm,htm,htm];by_cases h1 : oi.dst=some k
  ·rw [zxJ h1,zxI (hne k h1),zxJ h1]
  ·rw [zxI h1,zxI h1]
 ·rw [hme,hme,hme,hme]
  cases m with
  | none=>rfl
  | some mm=>cases q with
   | none=>rfl
   | some qq =>
    simp only;obtain ⟨di,hdi⟩:=zx5.1 (hm rfl);obtain ⟨dj,hdj⟩:=zx5.1 (hq rfl);have : di≠dj:=fun e=>hne di hdi (by rw [hdj,e])
    rw [hdi,hdj];simp only [zyS];by_cases h1 : k=di
    ·rw [zxJ h1,zxI (fun e=>this (h1.symm.trans e)),zxJ h1]
    ·rw [zxI h1,zxI h1]
 ·cases m <;> cases q <;> simp only [SS.upd,zey,ze9] <;> ac_rfl

def SOp (P : Program) (T : TT) (C : Cx) (ops : Array Oper) (late : Late) (m : Nat) (i : Nat) (K : SS->Prop) (st : SS) : Prop :=
 match ops[i]? with
 | none=>K st
 | some o=>if isQ late m i=true then zby C.N o.dst=true/\∃ x q,GEff P T ops.toList st o x q/\K (st.upd o x q)
  else match zdl late i with
   | some κ=>∃ mm,zca T st o κ=some mm/\K (st.mem κ mm)
   | none=>∃ st',(∀ a w,SR C st a w->SR C st' a w)/\sopG P T C ops.toList o st' K
def SAny (P : Program) (T : TT) (C : Cx) (ops : Array Oper) (late : Late) (m : Nat) (K : SS->Prop) : Nat->Array Bool->SS->Prop
 | 0,listed,st=>Region.ready .any ops listed=[]/\∃ st',(∀ a w,SR C st a w->SR C st' a w)/\K st'
 | fuel+1,listed,st=>(Region.ready .any ops listed=[]->∃ st',(∀ a w,SR C st a w->SR C st' a w)/\K st') /\
  ∀ i∈Region.ready .any ops listed,SOp P T C ops late m i (SAny P T C ops late m K fuel (listed.setIfInBounds i true)) st

theorem zdq {st : SS} {o : Oper} {κ : Nat} {mm : ME} (h : zca T st o κ=some mm) : ∃ t x y e off sv cs ty,o.op=.store t x y/\o.dst=none/\o.guard=none/\lk t T=some e/\ev st x=some (.o (.p κ off))/\ev st y=some sv /\
  lk κ st.me=some (.box cs ty)/\(Nat.beq sv.cells.length e.size&&sv.cells.all oneB)=true/\Nat.ble (off+e.size) cs.length=true/\mm=.box (putN off sv.cells cs) ty:=by
 unfold zca at h;split at h
 ·split at h
  ·rename_i t x y hop _ _ _ _ _ _ e k off sv cs ty hd hg ht hx hy hme
   cases hb : (Nat.beq k κ&&(Nat.beq sv.cells.length e.size&&sv.cells.all oneB)&&Nat.ble (off+e.size) cs.length) with
   | false=>rw [hb] at h; cases h
   | true =>
    rw [hb] at h;simp only [cond_true,zxq] at h;rw [zxV,zxV] at hb;have hk : k=κ:=zxj hb.1.1;subst hk;exact ⟨t,x,y,e,off,sv,cs,ty,hop,hd,hg,ht,hx,hy,hme,hb.1.2,hb.2,h.symm⟩
  ·cases h
 ·cases h
theorem zkY {st : SS} {o : Oper} {κ : Nat} {mm : ME} {all : List Oper} {K : SS->Prop} (h : zca T st o κ=some mm) (hK : K { st with me:=setL κ mm st.me }) : sopG P T C all o st K:=by
 obtain ⟨t,x,y,e,off,sv,cs,ty,hop,hd,hg,ht,hx,hy,hme,h1,h2,rfl⟩:=zdq h;unfold sopG;rw [hg];simp only;unfold sop;have hdop : dop T st (o.dst.getD 0) o.op=none:=by rw [hop]; rfl
 rw [hdop];simp only [hd];show bif zby C.N none then _ else _
 have : zby C.N none=true:=rfl;rw [this];simp only [cond_true];unfold sopX;rw [hop];simp only [hd];unfold zdL;simp only [ht,hx,hy,h1,cond_true,hme,h2];exact hK
theorem SR.lk {C : Cx} {st : SS} {me' : List (Nat×ME)} {a : Act} {w : World} (hl : ∀ k,lk k me'=lk k st.me) (h : SR C st a w) : SR C { st with me:=me' } a w:=by
 obtain ⟨E,h⟩:=h;have hm:=h.mem;exact ⟨E,h.size,h.defers,h.tm,⟨fun k m hk=>hm.ent k m (by rw [<-hl]; exact hk),fun k m b hk=>hm.ge k m b (by rw [<-hl]; exact hk),fun k k' m m' b hk hk'=>hm.inj k k' m m' b (by rw [<-hl]; exact hk) (by rw [<-hl]; exact hk'),
   fun R hR=>let ⟨r1,r2,r3⟩:=hm.res R hR; ⟨r1,r2,fun b hb=>⟨(r3 b hb).1,fun k m hk=>(r3 b hb).2 k m (by rw [<-hl]; exact hk)⟩⟩,hm.ext,fun j b m hX hj=>hm.rig j b m hX (by rw [<-hl]; exact hj)⟩⟩
theorem cells_has {sv : SV} {d : Nat} (h : sv.has d=false) : sv.cells.any (AV.has d)=false:=by
 cases sv with
 | o y=>cases y <;> simp_all [SV.cells,SV.has,AV.has]
 | a xs=>exact h
theorem zpE {f : AV->Bool} {off : Nat} {l cs : List AV} (hle : off+l.length<=cs.length) (h1 : l.any f=false) (h2 : cs.any f=false) : (putN off l cs).any f=false:=by
 rw [zb9 off l cs hle];rw [zxk] at h1 h2 ⊢;intro z hz;rcases zyK.1 hz with hz | hz
 ·rcases zyK.1 hz with hz | hz
  ·exact h2 z (zxP hz)
  ·exact h1 z hz
 ·exact h2 z (zxQ hz)
theorem zli {st : SS} {o : Oper} {κ d : Nat} {mm : ME} (h : zca T st o κ=some mm) (hd : st.has d=false) : (st.mem κ mm).has d=false:=by
 obtain ⟨t,x,y,e,off,sv,cs,ty,hop,hd',hg,ht,hx,hy,hme,h1,h2,rfl⟩:=zdq h;have hk:=zxE hd hme;rw [ze9,hd,zxO,zaH.2 hk.1,zxU];show (putN off sv.cells cs).any (AV.has d)=false;rw [zxV] at h1;refine zpE ?_ (cells_has (zcC hd hy)) hk.2;rw [zxj h1.1]; exact zxW h2
theorem ze3 {st st' : SS} {o : Oper} {κ : Nat} (hev : ∀ y∈o.op.operands.toList,ev st' y=ev st y) (hme : lk κ st'.me=lk κ st.me) : zca T st' o κ=zca T st o κ:=by
 unfold zca;split
 ·rename_i t x y hop;rw [hop] at hev;rw [hev x (by simp [Op.operands]),hev y (by simp [Op.operands]),hme]
 ·rfl

theorem SAny.eqv {ops : Array Oper} {late : Late} {m : Nat} {K : SS->Prop} : ∀ {fuel : Nat} {listed : Array Bool} {st st' : SS},SAny P T C ops late m K fuel listed st->Eqv st st'->SAny P T C ops late m K fuel listed st'
 | 0,listed,st,st',h,e=>⟨h.1,let ⟨s,h1,h2⟩:=h.2; ⟨s,fun a w hr=>h1 a w (hr.eqv e.symm),h2⟩⟩
 | fuel+1,listed,st,st',h,e=>by
  refine ⟨fun h0=>let ⟨s,h1,h2⟩:=h.1 h0; ⟨s,fun a w hr=>h1 a w (hr.eqv e.symm),h2⟩,fun i hi=>?_⟩;have:=h.2 i hi;unfold SOp at *;split at this
  ·exact SAny.eqv this e
  ·split at this
   ·rename_i hlt; rw [zxJ hlt]; obtain ⟨hd,x,q,h1,h2⟩:=this; exact ⟨hd,x,q,h1.eqv e,SAny.eqv h2 (e.upd _ _ _)⟩
   ·rename_i hlt; rw [zxI hlt];split at this
    ·rename_i κ _;obtain ⟨mm,h1,h2⟩:=this;exact ⟨mm,(ze3 (fun y _=>e.ev y) (e.me _)).trans h1,SAny.eqv h2 (e.mem κ mm)⟩
    ·obtain ⟨s,h1,h2⟩:=this; exact ⟨s,fun a w hr=>h1 a w (hr.eqv e.symm),h2⟩

def zd5 (ops : Array Oper) (listed : Array Bool) : Prop:=∀ (k : Nat) (ok : Oper),listed[k]?=some true->ops[k]?=some ok->∀ e∈ok.after,Region.binds .any e=true->listed[e.on]?=some true
theorem zfN {ops : Array Oper} {listed : Array Bool} (hcl : zd5 ops listed) {i : Nat} : ∀ {f j : Nat} {oj : Oper},ops[j]?=some oj->(∀ e∈oj.after,Region.binds .any e=true->listed[e.on]?=some true)->zgH ops f j i=true->listed[i]?=some true
 | 0,j,oj,_,_,h=>by simp [zgH] at h
 | f+1,j,oj,hoj,hall,h=>by
  simp only [zgH,hoj] at h;obtain ⟨e,he,hbe⟩:=Array.any_eq_true'.1 h;simp only [zxV,zxF] at hbe;have hl:=hall e he hbe.1;rcases hbe.2 with h1 | h1
  ·rw [zxj h1] at hl; exact hl
  ·cases hoe : ops[e.on]? with
   | none =>
    cases f with
    | zero=>simp [zgH] at h1
    | succ f=>simp [zgH,hoe] at h1
   | some oe=>exact zfN hcl hoe (hcl e.on oe hl hoe) h1
theorem zd5.set {ops : Array Oper} {listed : Array Bool} (hcl : zd5 ops listed) {j : Nat} {oj : Oper} (hoj : ops[j]?=some oj) (hall : ∀ e∈oj.after,Region.binds .any e=true->listed[e.on]?=some true) : zd5 ops (listed.setIfInBounds j true):=by
 have hmono : ∀ k : Nat,listed[k]?=some true->(listed.setIfInBounds j true)[k]?=some true:=by
  intro k hk;rw [Array.getElem?_setIfInBounds];split
  ·rename_i e;subst e;rw [zxJ (zxv.1 hk).1]
  ·exact hk
 intro k ok hk hok e he hb;by_cases hkj : j=k
 ·subst hkj;rw [hoj] at hok; cases hok;exact hmono _ (hall e he hb)
 ·rw [zyu hkj] at hk;exact hmono _ (hcl k ok hk hok e he hb)

theorem znv {op : Op} {l : List Operand} (h : zoq op=some l) : op.operands.toList=l:=by
 cases op
 case call c =>
  obtain ⟨zco,args,ts⟩:=c
  cases zco <;> simp_all [zoq,Op.operands,Call.operands]
 all_goals simp_all [zoq,Op.operands]
theorem zoS {st : SS} {o : Oper} {κ : Nat} (h : zfE st o κ=true) : ∀ y∈o.op.operands.toList,∀ sv k,ev st y=some sv->sv.has k=true->k≠κ:=by
 intro y hy sv k hsv hk e;unfold zfE at h
 cases ho : zoq o.op with
 | none=>rw [ho] at h; cases h
 | some l =>
  rw [ho] at h;rw [znv ho] at hy;have:=(zx2.1 h) y hy;rw [hsv] at this;simp only at this;rw [<-e,hk] at this
  cases this
theorem zgB {st st' : SS} {o : Oper} {κ : Nat} (hev : ∀ y∈o.op.operands.toList,ev st' y=ev st y) : zfE st' o κ=zfE st o κ:=by
 unfold zfE
 cases ho : zoq o.op with
 | none=>rfl
 | some l =>
  rw [znv ho] at hev;simp only;rw [zyV,zx2,zx2];exact ⟨fun h y hy=>by rw [<-hev y hy]; exact h y hy,fun h y hy=>by rw [hev y hy]; exact h y hy⟩
theorem GEff.store {ops : Array Oper} {st : SS} {oi oj : Oper} {x : SV} {q : Option ME} {κ : Nat} {mm : ME} (hf : zfE st oi κ=true) (hs : zca T st oj κ=some mm) (hi : GEff P T ops.toList st oi x q) :
  GEff P T ops.toList (st.mem κ mm) oi x q:=by
 have hsame : Same st (st.mem κ mm) oi.op.operands.toList:=by
  refine ⟨fun y _=>by cases y <;> rfl,fun y hy sv k hsv hk=>?_⟩;show lk k ((κ,mm)::st.me)=_;rw [zaB,zxI (zoS hf y hy sv k hsv hk)]
 have hD : ∀ {y : SV} {r : Option ME},DEff P T st oi y r->DEff P T (st.mem κ mm) oi y r:=fun h =>
  h.congr hsame rfl (fun hr=>by rw [h.fresh hr]; exact zli hs (h.fresh hr))
 unfold GEff at hi ⊢;split at hi
 ·exact hD hi
 ·obtain ⟨t,b,hg,h⟩ | ⟨h0,h1,h2⟩:=hi
  ·exact .inl ⟨t,b,hg,h.imp (fun ⟨h1,h2⟩=>⟨h1,hD h2⟩) id⟩
  ·exact .inr ⟨h0,h1,h2⟩
theorem ztI {st : SS} {o : Oper} {x : SV} {q : Option ME} {κ : Nat} {mm : ME} (hne : q.isSome=true->κ≠o.dst.getD 0) : Eqv ((st.upd o x q).mem κ mm) ((st.mem κ mm).upd o x q):=by
 have hre : ∀ (st : SS) (o : Oper) (x : SV) (m : Option ME),(st.upd o x m).re=st.re:=fun st o x m=>by cases m <;> cases hd : o.dst <;> simp [SS.upd,SS.put,SS.mem,hd]
 refine ⟨fun k=>?_,fun k=>?_,?_,fun k=>?_⟩
 ·cases q <;> cases hd : o.dst <;> simp [SS.upd,SS.put,SS.mem,hd]
 ·cases q with
  | none=>cases hd : o.dst <;> simp [SS.upd,SS.put,SS.mem,hd]
  | some mq =>
   have:=hne rfl;have h2 : ∀ d,d=o.dst.getD 0->lk k ((d,mq)::(κ,mm)::st.me)=lk k ((κ,mm)::(d,mq)::st.me):=by
    intro d hd;rw [zaB,zaB,zaB,zaB];by_cases e1 : k=d
    ·by_cases e2 : k=κ
     ·exact absurd (by rw [<-e2,e1,hd]) this
     ·rw [zxJ e1,zxI e2,zxJ e1]
    ·rw [zxI e1,zxI e1]
   cases hd : o.dst <;> simp only [SS.upd,SS.put,SS.mem,hd]
   ·exact h2 _ (by rw [hd])
   ·exact h2 _ (by rw [hd])
 ·rw [hre]; show st.re=((st.upd o x q)).re; rw [hre]
 ·cases q <;> simp only [SS.upd,zey,ze9] <;> ac_rfl

theorem SAny.first {ops : Array Oper} {late : Late} {m i : Nat} {oi : Oper} {x : SV} {q : Option ME} {K : SS->Prop} (hi : ops[i]?=some oi) (him : isQ late m i=true) (hdi : zby C.N oi.dst=true) :
  ∀ (fuel : Nat) (listed : Array Bool) (st : SS),
   (∀ j oj,ops[j]?=some oj->j≠i->listed.getD j true=false->(∀ e∈oj.after,Region.binds .any e=true->e.on≠i)->oi.apart ops oj=true/\(isQ late m j=true\/(∃ f,zgH ops f j i=true)\/∃ κ,zdl late j=some κ/\zfE st oi κ=true)) ->
   zd5 ops listed->i∈Region.ready .any ops listed->GEff P T ops.toList st oi x q ->
   SAny P T C ops late m K fuel (listed.setIfInBounds i true) (st.upd oi x q)->SAny P T C ops late m K (fuel+1) listed st:=by
 intro fuel;have take : ∀ {fuel' : Nat} {listed : Array Bool} {st : SS},GEff P T ops.toList st oi x q->SAny P T C ops late m K fuel' (listed.setIfInBounds i true) (st.upd oi x q) ->
   SOp P T C ops late m i (SAny P T C ops late m K fuel' (listed.setIfInBounds i true)) st:=by
  intro fuel' listed st hg h;unfold SOp;simp only [hi];rw [zxJ him];exact ⟨hdi,x,q,hg,h⟩
 induction fuel with
 | zero =>
  intro listed st _ _ hr hy H;refine ⟨fun h=>(by rw [h] at hr; cases hr),fun j hj=>?_⟩;by_cases hji : j=i
  ·subst hji; exact take hy H
  ·have:=ready_mono hj hji;rw [H.1] at this
   cases this
 | succ fuel ih =>
  intro listed st hfree hcl hr hy H;refine ⟨fun h=>(by rw [h] at hr; cases hr),fun j hj=>?_⟩;by_cases hji : j=i
  ·subst hji; exact take hy H
  ·have h1:=H.2 j (ready_mono hj hji);obtain ⟨hjun,oj,hoj,hall⟩:=mem_ready.1 hj;have hnot : ∀ e∈oj.after,Region.binds .any e=true->e.on≠i:=fun e he hb heq=>by
    have h1:=hall e he hb;have h0:=(mem_ready.1 hr).1;rw [heq] at h1;rcases zyW i listed.size with h' | h'
    ·simp [h'] at h0 h1; rw [h0] at h1; cases h1
    ·simp [zyX h'] at h1
   have hall' : ∀ e∈oj.after,Region.binds .any e=true->listed[e.on]?=some true:=fun e he hb=>by
    have:=hall e he hb;rcases zyW e.on listed.size with h' | h'
    ·simp [h'] at this ⊢; exact this
    ·simp [zyX h'] at this
   have hunset : ∀ k,(listed.setIfInBounds j true).getD k true=false->listed.getD k true=false:=by
    intro k hun;by_cases hjk : j=k
    ·subst hjk; exact hjun
    ·rw [getD_set_ne true hjk] at hun; exact hun
   obtain ⟨hap,hjm⟩:=hfree j oj hoj hji hjun hnot;have hjm : isQ late m j=true\/∃ κ,zdl late j=some κ/\zfE st oi κ=true:=by
    rcases hjm with h | ⟨f,h⟩ | h
    ·exact .inl h
    ·have h1:=zfN hcl hoj hall' h;have h0:=(mem_ready.1 hr).1;rcases zyW i listed.size with h' | h'
     ·simp [h'] at h0 h1; rw [h0] at h1; cases h1
     ·simp [zyX h'] at h1
    ·exact .inr h
   obtain ⟨a1,a2,a3⟩:=Oper.apart_spec hap;unfold SOp at h1 ⊢;simp only [hoj] at h1 ⊢;by_cases hjlt : isQ late m j=true
   ·rw [zxJ hjlt] at h1 ⊢;obtain ⟨hdj,y,r,hg,hS⟩:=h1;have hgj : GEff P T ops.toList st oj y r:=(GEff.upd_iff a1 a2 hy).1 hg;have hyi : GEff P T ops.toList (st.upd oj y r) oi x q:=(GEff.upd_iff (fun d hd=>a3 d hd) (fun d hd hd'=>a2 d hd' hd) hgj).2 hy;refine ⟨hdj,y,r,hgj,ih _ _ ?_ (hcl.set hoj hall') (ready_mono hr (Ne.symm hji)) hyi ?_⟩
    ·intro k ok hk hki hun hno;obtain ⟨b1,b2⟩:=hfree k ok hk hki (hunset k hun) hno;refine ⟨b1,b2.imp id (fun b2=>b2.imp id (fun ⟨κ,c1,c2⟩=>⟨κ,c1,?_⟩))⟩;rw [zgB (zjP (st:=st) (x:=y) (m:=r) a3 (fun hm=>(hgj.fresh hm).2)).ev]; exact c2
    ·rw [Array.setIfInBounds_comm _ _ hji];exact hS.eqv (zsw a2 (fun h=>(hy.fresh h).1) (fun h=>(hgj.fresh h).1))
   ·rw [zxI hjlt] at h1 ⊢;rcases hjm with h | ⟨κ,hκ,hfr⟩
    ·exact absurd h hjlt
    ·rw [hκ] at h1 ⊢;simp only at h1 ⊢;obtain ⟨mm,hst,hS⟩:=h1;have hsu:=zjP (st:=st) (x:=x) (m:=q) (oi:=oi) (oj:=oj) a1 (fun hm=>(hy.fresh hm).2);obtain ⟨t,px,py,e,off,sv,cs,ty,hop,hd,hg,ht,hx,_⟩:=zdq hst;have hxs : ev st px=some (.o (.p κ off)):=(hsu.ev px (by rw [hop]; simp [Op.operands])).symm.trans hx;have hkd : q.isSome=true->κ≠oi.dst.getD 0:=by
      intro hm heq;have:=zcC ((hy.fresh hm).2) hxs;rw [<-heq] at this;simp [SV.has,AV.has] at this
     have hmek : lk κ (st.upd oi x q).me=lk κ st.me:=by
      cases hq : q with
      | none=>cases hdd : oi.dst <;> simp [SS.upd,SS.put,hdd]
      | some mq =>
       have:=hkd (by rw [hq]; rfl)
       cases hdd : oi.dst <;> simp only [SS.upd,SS.put,SS.mem,hdd,zaB] <;> rw [hdd] at this <;> rw [zxI this]
     have hst' : zca T st oj κ=some mm:=(ze3 hsu.ev hmek).symm.trans hst;refine ⟨mm,hst',ih _ _ ?_ (hcl.set hoj hall') (ready_mono hr (Ne.symm hji)) (GEff.store hfr hst' hy) ?_⟩
     ·intro k ok hk hki hun hno;obtain ⟨b1,b2⟩:=hfree k ok hk hki (hunset k hun) hno;refine ⟨b1,b2.imp id (fun b2=>b2.imp id (fun ⟨κ',c1,c2⟩=>⟨κ',c1,?_⟩))⟩;rw [zgB (st:=st) (fun y _=>by cases y <;> rfl)]; exact c2
     ·rw [Array.setIfInBounds_comm _ _ hji];exact hS.eqv (ztI hkd)

end
abbrev zy3:=@Array.getElem?_replicate
abbrev zy1:=@List.mem_cons
abbrev zy0:=@List.mem_range
abbrev zyZ:=@List.mem_singleton
abbrev zyY:=@beq_iff_eq

def zox (ops : Array Oper) (late : Late) (m i : Nat) (listed : Array Bool) : Bool:=(List.range ops.size).all fun j=>listed.getD j true||isQ late m j||zgH ops ops.size j i||zf6 late j i
def zdk (ops : Array Oper) (late : Late) (m : Nat) : List Nat->Array Bool->Bool
 | [],listed=>(Region.ready .any ops listed).isEmpty
 | k::r,listed=>(bif isQ late m k then (Region.ready .any ops listed).contains k&&Region.free .any ops listed k&&zox ops late m k listed else Region.ready .any ops listed==[k])&&zdk ops late m r (listed.setIfInBounds k true)
def zmj (ops : Array Oper) (late : Late) (m : Nat) : Bool:=zdk ops late m (List.range ops.size) (Array.replicate ops.size false)

def zuV : Op->Bool
 | .store _ _ _=>false
 | .call ⟨.builtin .append,_,_⟩=>false
 | .call ⟨.builtin .copy,_,_⟩=>false
 | .makeSlice _ _ _=>false
 | _=>true
def zhs : List Oper->Nat
 | []=>0
 | o::r=>bif zuV o.op then zhs r+1 else 0

section
variable {P : Program} {T : TT} {C : Cx} {ro : Option Nat} {n : Nat}

theorem zdn {j i : Nat} : ∀ {late : Late},zf6 late j i=true->∃ κ fr,zdl late j=some κ/\(j,κ,fr)∈late/\fr.any (Nat.beq i)=true
 | [],h=>by simp [zf6] at h
 | (s,k,fr)::r,h=>by
  simp only [zf6] at h;simp only [zdl]
  cases hb : Nat.beq s j with
  | true =>
   rw [hb] at h; simp only [cond_true] at h ⊢;rw [<-zxj hb];exact ⟨k,fr,rfl,zxA ..,h⟩
  | false =>
   rw [hb] at h; simp only [cond_false] at h ⊢;obtain ⟨κ,fr',h1,h2,h3⟩:=zdn h;exact ⟨κ,fr',h1,zxB _ h2,h3⟩
theorem zed {ops : Array Oper} {o : Oper} {st : SS} {K : SS->Prop} (h : zjM P T C ops.toList o st K) : zby C.N o.dst=true/\∃ x q st1,Eqv st st1/\GEff P T ops.toList st o x q/\K (st1.upd o x q):=by
 unfold zjM at h;split at h
 ·rename_i hg;obtain ⟨hd,x,m,he,hk⟩:=znR h;exact ⟨hd,x,m,st,Eqv.refl _,by unfold GEff; rw [hg]; exact he,hk⟩
 ·rename_i j want hg;split at h
  ·rename_i t b hgv;have hl:=(zqW hgv).2;have hskip : ∀ bb,b=bb->b≠want->(bif zby C.N o.dst then K ((st.put (some t) (.o (.v (.bool bb)))).put o.dst (.o (.v undef))) else False) ->
     zby C.N o.dst=true/\∃ x q st1,Eqv st st1/\GEff P T ops.toList st o x q/\K (st1.upd o x q):=by
    intro bb hbb hne hk;subst hbb
    cases hd : zby C.N o.dst with
    | false=>rw [hd] at hk; exact hk.elim
    | true =>
     rw [hd] at hk;exact ⟨rfl,.o (.v undef),none,_,Eqv.redo hl,by unfold GEff; rw [hg]; exact .inl ⟨t,b,hgv,.inr ⟨hne,rfl,rfl⟩⟩,hk⟩
   have hrun : ∀ bb,b=bb->b=want->dsop P T C o (st.put (some t) (.o (.v (.bool bb)))) K->zby C.N o.dst=true/\∃ x q st1,Eqv st st1/\GEff P T ops.toList st o x q/\K (st1.upd o x q):=by
    intro bb hbb hbw hk;subst hbb;have he:=Eqv.redo hl;obtain ⟨hd,x,m,hde,hk⟩:=znR hk;exact ⟨hd,x,m,_,he,by unfold GEff; rw [hg]; exact .inl ⟨t,b,hgv,.inl ⟨hbw,hde.congr (he.symm.same _) he.symm.re (fun _=>he.symm.has _)⟩⟩,hk⟩
   cases want <;> cases b <;> simp only [br] at h
   ·exact hrun false rfl rfl h
   ·exact hskip true rfl (by simp) h
   ·exact hskip false rfl (by simp) h
   ·exact hrun true rfl rfl h
  ·rename_i hgn
   cases hgu : gund ops.toList st j with
   | false=>rw [hgu] at h; exact h.elim
   | true =>
    rw [hgu] at h;simp only [cond_true] at h
    cases hd : zby C.N o.dst with
    | false=>rw [hd] at h; exact h.elim
    | true =>
     rw [hd] at h;exact ⟨rfl,.o (.v undef),none,st,Eqv.refl _,by unfold GEff; rw [hg]; exact .inr ⟨hgn,hgu,rfl,rfl⟩,h⟩

theorem zeD {ops : Array Oper} {late : Late} {m : Nat} {K : SS->Prop} : ∀ (r : List (Nat×Oper)) (listed : Array Bool) (st : SS),(∀ p∈r,ops[p.1]?=some p.2)->zdk ops late m (r.map (·.1)) listed=true->zd5 ops listed ->
  dops P T C ops.toList late m r st K->SAny P T C ops late m K r.length listed st
 | [],listed,st,_,hb,hcl,hs=>⟨by simpa [zdk] using hb,st,fun _ _ h=>h,hs⟩
 | (k,o)::r,listed,st,hr,hb,hcl,hs=>by
  have h0 : ops[k]?=some o:=hr (k,o) (zxA ..);have hr' : ∀ p∈r,ops[p.1]?=some p.2:=fun p hp=>hr p (zxB _ hp)
  simp only [zxT,zdk] at hb;simp only [dops] at hs;have hpre : k∈Region.ready .any ops listed->∀ e∈o.after,Region.binds .any e=true->listed[e.on]?=some true:=by
   intro hrd;obtain ⟨_,o',ho',hall⟩:=mem_ready.1 hrd;rw [h0] at ho'; cases ho';intro e he hbe;have:=hall e he hbe;rcases zyW e.on listed.size with h' | h'
   ·simp [h'] at this ⊢; exact this
   ·simp [zyX h'] at this
  cases hkm : isQ late m k with
  | false =>
   rw [hkm] at hb hs;simp only [cond_false,zxV,zyY] at hb hs;have hmem : k∈Region.ready .any ops listed:=by rw [hb.1]; exact zyZ.2 rfl
   have hnext : ∀ s,dops P T C ops.toList late m r s K->SAny P T C ops late m K r.length (listed.setIfInBounds k true) s:=fun s hs'=>zeD r _ s hr' hb.2 (hcl.set h0 (hpre hmem)) hs'
   refine ⟨fun h=>(by rw [hb.1] at h; cases h),fun i hi=>?_⟩;rw [hb.1] at hi;simp only [zyZ] at hi;subst hi;unfold SOp;simp only [h0];rw [zxI (by rw [hkm]; simp)]
   cases hlt : zdl late i with
   | none =>
    rw [hlt] at hs;exact ⟨st,fun _ _ h=>h,zeh hnext hs⟩
   | some κ =>
    rw [hlt] at hs;simp only at hs ⊢
    cases hsb : zca T st o κ with
    | none=>rw [hsb] at hs; exact hs.elim
    | some mm=>rw [hsb] at hs; exact ⟨mm,rfl,hnext _ hs⟩
  | true =>
   rw [hkm] at hb hs;simp only [cond_true,zxV] at hb hs;obtain ⟨⟨⟨hready,hfree⟩,hwait⟩,hb⟩:=hb
   cases hlo : zfB late k st o with
   | false=>rw [hlo] at hs; exact hs.elim
   | true =>
   rw [hlo] at hs;simp only [cond_true] at hs;obtain ⟨hd,x,q,st1,he,hg,hK⟩:=zed hs;have hspec:=Region.free_spec h0 hfree;have hrd : k∈Region.ready .any ops listed:=by simpa using hready
   refine SAny.first (q:=q) h0 hkm hd r.length listed st ?_ hcl hrd hg ?_
   ·intro j oj hoj hne hun hno;refine ⟨hspec j oj hoj hne hun hno,?_⟩;unfold zox at hwait;rw [zx2] at hwait;have hj:=hwait j (zy0.2 (zxv.1 hoj).1);rw [hun] at hj;simp only [zxF,zyi,false_or] at hj;rcases hj with (hj | hj) | hj
    ·exact .inl hj
    ·exact .inr (.inl ⟨_,hj⟩)
    ·obtain ⟨κ,fr,hκ,hm,hfr⟩:=zdn hj;unfold zfB at hlo;rw [zx2] at hlo;have:=hlo _ hm;simp only [hfr,Bool.not_true,zxU] at this;exact .inr (.inr ⟨κ,hκ,this⟩)
   ·have:=zeD (K:=K) r (listed.setIfInBounds k true) _ hr' hb (hcl.set h0 (hpre hrd)) hK;exact this.eqv (he.symm.upd o x q)
theorem zkf {ops : Array Oper} : ∀ (l : List Oper) (k : Nat),(∀ j,l[j]?=ops[k+j]?\/l[j]?=none)->∀ p∈zjr k l,ops[p.1]?=some p.2
 | [],k,_,p,hp=>by cases hp
 | o::r,k,h,p,hp=>by
  rcases zy1.1 hp with rfl | hp
  ·rcases h 0 with h0 | h0
   ·simpa using h0.symm
   ·cases h0
  ·refine zkf r (k+1) (fun j=>?_) p hp;have:=h (j+1);simpa [zxS,zyc 1 j] using this
theorem zkq : ∀ (l : List Oper) (k : Nat),(zjr k l).map (·.1)=List.range' k l.length
 | [],k=>rfl
 | o::r,k=>by simp [zjr,zkq r (k+1),List.range'_succ]
theorem zky : ∀ (l : List Oper) (k : Nat),(zjr k l).length=l.length
 | [],k=>rfl
 | o::r,k=>by simp [zjr,zky r (k+1)]

theorem SAny.sound (hT : zaY P T) {ops : Array Oper} {late : Late} {m : Nat} {K : SS->Prop} {Q : Exit->Act->World->Prop} (hK : ∀ st a w,K st->SR C st a w->Q .normal a w) : ∀ {fuel : Nat} {listed : Array Bool} {st : SS} {a : Act} {w : World},SAny P T C ops late m K fuel listed st->SR C st a w ->
  wpAnyIn (FW ro) n P .any ops Q fuel listed a w
 | 0,listed,st,a,w,h,hr=>⟨h.1,let ⟨s,h1,h2⟩:=h.2; hK s a w h2 (h1 a w hr)⟩
 | fuel+1,listed,st,a,w,h,hr=>by
  refine ⟨fun h0=>let ⟨s,h1,h2⟩:=h.1 h0; hK s a w h2 (h1 a w hr),fun i hi=>?_⟩;have hs:=h.2 i hi;unfold SOp at hs;unfold wpOpIn;split at hs
  ·rename_i ho;simp only [ho];exact SAny.sound hT hK hs hr
  ·rename_i o ho;simp only [ho];split at hs
   ·obtain ⟨hd,x,q,hg,hS⟩:=hs;obtain ⟨E,hE⟩:=hr;unfold GEff at hg;unfold Region.wanted;split at hg
    ·rename_i hgd;rw [hgd];exact hg.sound hT hE hd (fun a' w' h'=>SAny.sound hT hK hS h')
    ·rename_i j want hgd;rw [hgd];obtain ⟨t,b,hgv,hg⟩ | ⟨_,hgu,rfl,rfl⟩:=hg
     ·obtain ⟨hy,hl⟩:=zpt hE hgv;simp only [hy];rcases hg with ⟨hbw,hg⟩ | ⟨hbw,rfl,rfl⟩
      ·rw [zxJ (by rw [hbw]; simp)];exact hg.sound hT hE hd (fun a' w' h'=>SAny.sound hT hK hS h')
      ·rw [zxI (by simpa using hbw)];exact ⟨fun _ _=>trivial,SAny.sound hT hK hS ⟨E,hE.put hd _⟩⟩
     ·simp only [zo8 hE hgu];rw [zxI (by simp)];exact ⟨fun _ _=>trivial,SAny.sound hT hK hS ⟨E,hE.put hd _⟩⟩
   ·split at hs
    ·rename_i κ _;obtain ⟨mm,h1,h2⟩:=hs;refine zgq hT hr (zkY (K:=fun s=>s={ st with me:=setL κ mm st.me }) h1 rfl) (fun st' a' w' hk' hr'=>?_);subst hk';obtain ⟨_,_,_,_,_,_,cs,ty,_,_,_,_,_,_,hme,_⟩:=zdq h1;have hr2 : SR C (st.mem κ mm) a' w':=SR.lk (st:={ st with me:=setL κ mm st.me }) (me':=(κ,mm)::st.me) (fun k=>by
      rw [zaB,zdv,hme]) hr'
     exact SAny.sound hT hK h2 hr2
    ·obtain ⟨s,h1,h2⟩:=hs;exact zgq hT (h1 a w hr) h2 (fun st' a' w' hk' hr'=>SAny.sound hT hK hk' hr')

abbrev zy2:=@SAny.sound
theorem zoj (hT : zaY P T) (hmix : P.follows .mixedOrders=true) {id : Nat} {ops : Array Oper} {late : Late} {m : Nat} {st : SS} {a : Act} {w : World} {K : SS->Prop} {Q : Exit->Act->World->Prop} (hb : zmj ops late m=true) (h : SR C st a w)
  (hs : dops P T C ops.toList late m (zjr 0 ops.toList) st K) (hK : ∀ st a w,K st->SR C st a w->Q .normal a w) : (Code.region id ops true).wpIn (FW ro) n P Q a w:=by
 refine wpIn_region_any hmix ?_;have h' : SR C st a { w with drawn:=w.drawn+1 }:=by
  obtain ⟨E,hE⟩:=h;exact ⟨E,hE.world ⟨rfl,rfl,rfl,zxr _,fun _ _=>rfl,Nat.le_succ _⟩⟩
 have:=zeD (P:=P) (T:=T) (C:=C) (K:=K) (late:=late) (m:=m) (zjr 0 ops.toList) (Array.replicate ops.size false) st (zkf _ _ (fun j=>.inl (by simp)))
  (by rw [zkq,zxX,<-List.range_eq_range']; exact hb) (fun k ok hk=>by simp [zy3] at hk) hs
 rw [zky] at this;have h2:=this.sound (ro:=ro) (n:=n) hT (Q:=Q) hK h';simpa using h2

def SLe (C : Cx) (st st' : SS) : Prop:=∀ a w,SR C st a w->SR C st' a w
structure zak (ops : Array Oper) (K : Nat->Late->Prop) : Prop where
 out : ∃ m late,zmj ops late m=true/\K m late
theorem zak.quiet {ops : Array Oper} {K : Nat->Late->Prop} (h : zmj ops [] (zhs ops.toList)=true) (k : K (zhs ops.toList) []) : zak ops K:=⟨_,_,h,k⟩
theorem zak.qk {ops : Array Oper} {K : Nat->Late->Prop} (k : K (zhs ops.toList) []) (h : zmj ops [] (zhs ops.toList)=true:=by kernel_rfl) : zak ops K:=⟨_,_,h,k⟩
theorem zak.at (m : Nat) {ops : Array Oper} {K : Nat->Late->Prop} (h : zmj ops [] m=true) (k : K m []) : zak ops K:=⟨m,_,h,k⟩
theorem zak.late (late : Late) {ops : Array Oper} {K : Nat->Late->Prop} (h : zmj ops late (zhs ops.toList)=true) (k : K (zhs ops.toList) late) : zak ops K:=⟨_,late,h,k⟩
abbrev zy4:=@zak.late
theorem zak.lateAt (m : Nat) (late : Late) {ops : Array Oper} {K : Nat->Late->Prop} (h : zmj ops late m=true) (k : K m late) : zak ops K:=⟨m,late,h,k⟩
theorem zak.mono {ops : Array Oper} {K K' : Nat->Late->Prop} (h : zak ops K) (hk : ∀ m l,K m l->K' m l) : zak ops K':=by obtain ⟨m,l,h1,h2⟩:=h.out; exact ⟨m,l,h1,hk m l h2⟩
def zcJ (P : Program) (T : TT) (C : Cx) : Code->SS->(Exit->SS->Prop)->Prop
 | .skip,st,Q=>Q .normal st
 | .label _,st,Q=>Q .normal st
 | .region _ ops draw,st,Q=>match draw with
  | false=>sops P T C ops.toList ops.toList st (fun st'=>Q .normal st')
  | true=>zak ops (fun m late=>dops P T C ops.toList late m (zjr 0 ops.toList) st (fun st'=>Q .normal st'))
 | .seq x y,st,Q=>zcJ P T C x st (fun e st'=>match e with
  | .normal=>zcJ P T C y st' Q
  | e=>Q e st')
 | .cond c x y,st,Q=>match ev st c with
  | some (.o (.v (.bool b)))=>br b (zcJ P T C x st Q) (zcJ P T C y st Q)
  | _=>False
 | .block id c,st,Q=>zcJ P T C c st (fun e st'=>match e with
  | .exit j=>bif Nat.beq j id then Q .normal st' else Q (.exit j) st'
  | e=>Q e st')
 | .loop c,st,Q=>∃ (ι : Type) (I : ι->SS) (μ : ι->Nat) (i : ι),SLe C st (I i)/\∀ i,zcJ P T C c (I i) (fun e st'=>match e with
  | .normal=>∃ j,μ j<μ i/\SLe C st' (I j)
  | e=>Q e st')
 | .exit id,st,Q=>Q (.exit id) st
 | .goto l,st,Q=>Q (.goto l) st
 | .ret,st,Q=>Q .ret st
 | _,_,_=>False

def lift (C : Cx) (Q : Exit->SS->Prop) : Exit->Act->World->Prop:=fun e a w=>∃ st,SR C st a w/\Q e st

theorem zbu (hT : zaY P T) (hmix : P.follows .mixedOrders=true) : ∀ (c : Code) {st : SS} {Q : Exit->SS->Prop} {a : Act} {w : World},zcJ P T C c st Q->SR C st a w->c.wpIn (FW ro) n P (lift C Q) a w
 | .skip,st,Q,a,w,hs,h=>wpIn_skip ⟨st,h,hs⟩
 | .label _,st,Q,a,w,hs,h=>wpIn_label ⟨st,h,hs⟩
 | .region id ops draw,st,Q,a,w,hs,h=>by
  cases draw with
  | false=>exact wpIn_region_list (ziZ hT (fun st' a' w' hk hr=>⟨st',hr,hk⟩) h hs)
  | true =>
   obtain ⟨m,late,h1,h2⟩:=hs.out;exact zoj hT hmix h1 h h2 (fun st' a' w' hk hr=>⟨st',hr,hk⟩)
 | .seq x y,st,Q,a,w,hs,h=>by
  refine wpIn_seq (wpIn_mono (zbu hT hmix x hs h) ?_);rintro e a' w' ⟨st',hr,hq⟩
  cases e with
  | normal=>exact zbu hT hmix y hq hr
  | _=>exact ⟨st',hr,hq⟩
 | .cond c x y,st,Q,a,w,hs,h=>by
  simp only [zcJ] at hs;split at hs
  ·rename_i b hb;obtain ⟨E,hE⟩:=h;have hev : a.eval c=.bool b:=zaN hE hb;refine wpIn_cond_split hev (fun hb=>?_) (fun hb=>?_)
   ·subst hb; exact zbu hT hmix x hs ⟨E,hE⟩
   ·subst hb; exact zbu hT hmix y hs ⟨E,hE⟩
  ·exact hs.elim
 | .block id c,st,Q,a,w,hs,h=>by
  refine wpIn_block (wpIn_mono (zbu hT hmix c hs h) ?_);rintro e a' w' ⟨st',hr,hq⟩
  cases e with
  | exit j =>
   simp only [Exit.inBlock];by_cases hj : j=id
   ·subst hj; rw [zxJ rfl]; simp only [zxM,cond_true] at hq; exact ⟨st',hr,hq⟩
   ·rw [zxI hj]; simp only [zaH.2 hj,cond_false] at hq; exact ⟨st',hr,hq⟩
  | _=>exact ⟨st',hr,hq⟩
 | .loop c,st,Q,a,w,hs,h=>by
  obtain ⟨ι,I,μ,i,hi,hround⟩:=hs;refine wpIn_mono (Q:=lift C Q) ?_ (fun _ _ _ h=>h);have key : ∀ (m : Nat) (i : ι) (a : Act) (w : World),μ i=m->SR C (I i) a w->∀ (b : Frame) (k : List Item) (cs : List Frame),b.roundOf=(FW ro).round->(FW ro).fn b.fn->(FW ro).room (cs.length+1+n) ->
    ∃ e a' w',lift C Q e a' w'/\ArrivesIn (Machine.fenced P (FW ro)) P (lone (b.atR a (.code c::.inLoop c::k)) cs w) b k cs e a' w':=by
   intro m
   induction m using Nat.strongRecOn with
   | _ m ih =>
    intro i a w hm hI b k cs hro hb hr;obtain ⟨e,a₁,w₁,⟨st',hst,hq⟩,harr⟩:=zbu hT hmix c (hround i) hI b (.inLoop c::k) cs hro hb hr
    cases e with
    | normal =>
     obtain ⟨j,hlt,hle⟩:=hq;obtain ⟨e₂,a₂,w₂,hq₂,harr₂⟩:=ih (μ j) (hm▸hlt) j a₁ w₁ rfl (hle _ _ hst) b k cs hro hb hr;exact ⟨e₂,a₂,w₂,hq₂,.of_steps (StepsIn.trans harr (.one (fenced_calm hb hr rfl) stepR_inLoop)) harr₂⟩
    | exit id=>exact ⟨_,a₁,w₁,⟨st',hst,hq⟩,.pass (x:=.inLoop c) rfl (fun _ _=>.inl (by simp)) harr⟩
    | goto l=>exact ⟨_,a₁,w₁,⟨st',hst,hq⟩,.pass (x:=.inLoop c) rfl (fun _ _=>.inl (by simp)) harr⟩
    | ret=>exact ⟨_,a₁,w₁,⟨st',hst,hq⟩,.pass (x:=.inLoop c) rfl (fun _ _=>.inl (by simp)) harr⟩
    | panic ch=>exact ⟨_,a₁,w₁,⟨st',hst,hq⟩,.pass (x:=.inLoop c) rfl (fun _ _=>.inl (by simp)) harr⟩
    | outgrown=>exact ⟨_,a₁,w₁,⟨st',hst,hq⟩,.pass (x:=.inLoop c) rfl (fun _ _=>.inl (by simp)) harr⟩
  intro b k cs hro hb hr;obtain ⟨e,a',w',hq,harr⟩:=key _ i a w rfl (hi _ _ h) b k cs hro hb hr;exact ⟨e,a',w',hq,.of_steps (.one (fenced_calm hb hr rfl) stepR_loop) harr⟩
 | .exit id,st,Q,a,w,hs,h=>wpIn_exit ⟨st,h,hs⟩
 | .goto l,st,Q,a,w,hs,h=>wpIn_goto ⟨st,h,hs⟩
 | .ret,st,Q,a,w,hs,h=>wpIn_ret ⟨st,h,hs⟩
 | .rangeFunc _ _ _ _,_,_,_,_,hs,_=>hs.elim
 | .scope _,_,_,_,_,hs,_=>hs.elim
 | .refuse _,_,_,_,_,hs,_=>hs.elim

end
abbrev zzb:=@Array.getElem?_append_left
abbrev zza:=@Nat.sub_zero
abbrev zy6:=@World.putObj_size
abbrev zy5:=@World.putObj_heap_other

def zdx : Nat->List SV->List (Nat×SV)
 | _,[]=>[]
 | i,x::r=>(i,x)::zdx (i+1) r
theorem znC : ∀ (l : List SV) (i j : Nat) {x : SV},lk j (zdx i l)=some x->i<=j/\l[j-i]?=some x
 | [],i,j,x,h=>by simp [zdx,lk] at h
 | y::r,i,j,x,h=>by
  simp only [zdx,zaB] at h;split at h
  ·rename_i e; subst e; cases h; simp
  ·have:=znC r (i+1) j h;refine ⟨by omega,?_⟩;rw [show j-i=(j-(i+1))+1 by omega];simpa using this.2

def rets (T : TT) (st : SS) : List ResultVar->Option (List SV)
 | []=>some []
 | .tmp t::r=>match lk t st.tm,rets T st r with
  | some x,some l=>some (x::l)
  | _,_=>none
 | .cell p t::r=>match lk t T,lk p st.tm,rets T st r with
  | some e,some (.o (.p k off)),some l=>match lk k st.me with
   | some (.box cs _)=>match zfO e.size (zgO off cs) with
    | some y=>bif zbn e.desc then some (mkA y::l) else (match y with
     | [z]=>some (.o z::l)
     | _=>none)
    | none=>none
   | _=>none
  | _,_,_=>none
def zsM (T : TT) (fn : Func) (st : SS) (post : List SV->SS->Prop) : Prop:=match rets T st fn.results.toList with
 | some l=>post l st
 | none=>False
def retQ (T : TT) (fn : Func) (post : List SV->SS->Prop) : Exit->SS->Prop
 | .normal,st=>zsM T fn st post
 | .ret,st=>zsM T fn st post
 | _,_=>False
def retV : List Value->Value
 | [x]=>x
 | l=>.tuple ⟨l⟩

section
variable {P : Program} {T : TT} {C : Cx} {ro : Option Nat} {n : Nat}

def resF (tmps : Array Value) : ResultVar->Sem Value
 | .tmp t=>pure (tmps.getD t undef)
 | .cell p t=>do loadVar t (<-asAddr (tmps.getD p undef))
theorem zn8 (fn : Func) (tmps : Array Value) : results fn tmps=(do let vs <-fn.results.mapM (resF tmps); pure (if h : vs.size=1 then vs[0] else .tuple vs)):=by
 unfold results
 congr 2
theorem zlM (hT : zaY P T) {E : Env} {st : SS} {a : Act} {w w' : World} (h : SRE C E st a w) (hm : zaV C E st.me st.re w') : ∀ {rs : List ResultVar} {l : List SV},rets T st rs=some l ->
   (rs.mapM (m:=Sem) (resF a.tmps)).run P w'=.ok (l.map (SV.real E)) w'
 | [],l,hl=>by simp only [rets,zxq] at hl; subst hl; rfl
 | .tmp t::r,l,hl=>by
   simp only [rets] at hl;split at hl
   · rename_i x l' hx hr
     cases hl
     have:=h.tm _ _ hx;rw [List.mapM_cons,zxy];simp only [resF,zxZ,Result.andThen];rw [zxy,zlM hT h hm hr];simp [Result.andThen,this]
   · cases hl
 | .cell p t::r,l,hl=>by
   simp only [rets] at hl;split at hl
   · rename_i e k off l' he hp hr;split at hl
     · rename_i cs ty hme;split at hl
       · rename_i y hy;have htm:=h.tm _ _ hp;obtain ⟨b,hb,hcells⟩:=hm.ent _ _ hme;have hy':=zeV hy;rw [zeH] at hy';have hev : a.tmps.getD p undef=.pointer (some ⟨b,off,none⟩):=by
           rw [Array.getD_eq_getD_getElem?,htm]; simp [SV.real,AV.real,hb]
         have hv:=zfe (hT _ _ he).1 (b:=b) (off:=off) (w:=w') (l:=y.map (AV.real E)) (by simp [hy'.2]) (fun j v hj=>by
           rw [zcg hcells];rw [hy'.1] at hj;simp only [zx4,zx7,zx8] at hj;simp only [zx3,zx4];split at hj
           · exact hj
           · simp at hj)
         have hgo : ∀ {x : SV},(loadVar t ⟨b,off,none⟩).run P w'=.ok (x.real E) w' ->
             ((ResultVar.cell p t::r).mapM (m:=Sem) (resF a.tmps)).run P w'=.ok ((x::l').map (SV.real E)) w':=by
           intro x hx;have has : (asAddr (a.tmps.getD p undef)).run P w'=.ok ⟨b,off,none⟩ w':=by rw [hev]; rfl
           rw [List.mapM_cons,zxy];simp only [resF];rw [zxy,has];simp only [Result.andThen];rw [hx];simp only [Result.andThen];rw [zxy,zlM hT h hm hr];simp [Result.andThen]
         by_cases hg : zbn e.desc=true
         · rw [hg] at hl
           cases hl
           rw [zxJ hg] at hv;exact hgo (by rw [zi3]; exact hv)
         · rw [zxI hg] at hv;rw [zxG] at hg;rw [hg] at hl;simp only [cond_false] at hl;split at hl
           · cases hl
             exact hgo hv
           · cases hl
       · cases hl
     · cases hl
   · cases hl

theorem zkO {E : Env} {st : SS} {fn : Func} {R : Ending->World->Prop} {tmps : Array Value} (hfin : ∀ w',zaV C E st.me st.re w'->∃ v,(results fn tmps).run P w'=.ok v w'/\R (.returned v) w') :
  ∀ (bs : List Nat) (w : World),bs.Nodup->(∀ b∈bs,C.W0.heap.size<=b/\w.heap[b]?=some (Obj.deferred (some [])))->zaV C E st.me st.re w ->
  LeavesInM (FW ro) n P fn tmps R (bs.map fun b=>{ target:=.collected b,args:=#[] }) .returning w
 | [],w,_,_,hm=>by
  simp only [zyt,LeavesInM,LeavesIn];exact hfin w hm
 | b::bs,w,hnd,hbs,hm=>by
  simp only [zxT,LeavesInM];obtain ⟨h1,h2⟩:=hbs b (by simp);have hlt : b<w.heap.size:=(zxv.1 h2).1;refine ⟨by simp,.inl ⟨b,_,rfl,run_takeDeferred h2,zkO hfin bs _ (List.nodup_cons.1 hnd).2 (fun c hc=>?_) ?_⟩⟩
  ·obtain ⟨h3,h4⟩:=hbs c (zxB _ hc);exact ⟨h3,(zy5 (fun e=>by subst e; exact (List.nodup_cons.1 hnd).1 hc)).trans h4⟩
  ·have hne : ∀ {c cs t fr},w.heap[c]?=some (Obj.cells cs t fr)->(w.putObj b (.deferred none)).heap[c]?=w.heap[c]?:=fun {c cs t fr} hc =>
    zy5 (fun e=>by subst e; rw [h2] at hc; cases hc)
   have hblk : ∀ k m,lk k st.me=some m->∀ c,E.β k=some c->(w.putObj b (.deferred none)).heap[c]?=w.heap[c]?:=by
    intro k m hk c hc;have:=hm.ent k m hk
    cases m with
    | box cs t=>obtain ⟨c',h5,h6⟩:=this; rw [hc] at h5; cases h5; exact hne h6
    | sym cs t=>obtain ⟨c',h5,h6⟩:=this; rw [hc] at h5; cases h5; exact hne h6
    | own t es q xs =>
     obtain ⟨_,_,⟨h5,_⟩ | ⟨c',cur,h5,h6,_⟩⟩:=zbH this
     ·rw [hc] at h5; cases h5
     ·rw [hc] at h5; cases h5; exact hne h6
   refine ⟨fun k m hk=>(hm.ent k m hk).of_block (hblk k m hk),fun k m c hk hc=>⟨(hm.ge k m c hk hc).1,by rw [zy6]; exact (hm.ge k m c hk hc).2⟩,hm.inj,fun Rr hR=>?_,?_,?_⟩
   ·obtain ⟨r1,r2,r3⟩:=hm.res Rr hR;have hk : ∀ c∈Rr.bs,(w.putObj b (.deferred none)).heap[c]?=w.heap[c]?:=fun c hc=>by obtain ⟨o,h7,h8⟩:=(r3 c hc).1; exact zy5 (fun e=>by subst e; rw [h2] at h7; cases h7; cases h8)
    exact ⟨r1,r1 _ _ r2 hk,fun c hc=>⟨(r3 c hc).1.keep (hk c hc),(r3 c hc).2⟩⟩
   ·exact ⟨hm.ext.os,hm.ext.tape,hm.ext.output,by rw [zy6]; exact hm.ext.size,fun k hk hx=>(zy5 (by omega)).trans (hm.ext.block k hk hx),hm.ext.drawn⟩
   ·exact hm.rig

structure WPS (P : Program) (C : Cx) (c : Code) (st : SS) (Q : Exit->SS->Prop) : Prop where
 wp : ∀ a w,SR C st a w->c.wpIn (FW none) 0 P (lift C Q) a w
theorem WPS.of (hT : zaY P T) (hmix : P.follows .mixedOrders=true) {c : Code} {st : SS} {Q : Exit->SS->Prop} (h : zcJ P T C c st Q) : WPS P C c st Q:=⟨fun a w hr=>zbu (ro:=none) (n:=0) hT hmix c h hr⟩
abbrev zy7:=@WPS.of
theorem WPS.le {c : Code} {st st' : SS} {Q : Exit->SS->Prop} (h : WPS P C c st' Q) (hl : SLe C st st') : WPS P C c st Q:=⟨fun a w hr=>h.wp a w (hl a w hr)⟩
abbrev zy8:=@WPS.le
theorem WPS.peel (hT : zaY P T) (hmix : P.follows .mixedOrders=true) {x y : Code} {st : SS} {Q : Exit->SS->Prop} (h : zcJ P T C x st (fun e s=>match e with
  | .normal=>WPS P C y s Q
  | e=>Q e s)) : WPS P C (.seq x y) st Q:=⟨fun a w hr=>by
 refine wpIn_seq (wpIn_mono (zbu (ro:=none) (n:=0) hT hmix x h hr) ?_);rintro e a' w' ⟨st',hst,hq⟩
 cases e with
 | normal=>exact hq.wp _ _ hst
 | _=>exact ⟨st',hst,hq⟩⟩
abbrev zy9:=@WPS.peel
theorem WPS.cut (hT : zaY P T) (hmix : P.follows .mixedOrders=true) {x y : Code} {st : SS} {Q : Exit->SS->Prop} {ι : Type} (M : ι->SS) (J : ι->Prop) (h : zcJ P T C x st (fun e s=>match e with
  | .normal=>∃ j,J j/\SLe C s (M j)
  | e=>Q e s)) (hy : ∀ j,J j->WPS P C y (M j) Q) : WPS P C (.seq x y) st Q:=⟨fun a w hr=>by
 refine wpIn_seq (wpIn_mono (zbu (ro:=none) (n:=0) hT hmix x h hr) ?_);rintro e a' w' ⟨st',hst,hq⟩
 cases e with
 | normal=>obtain ⟨j,hj,hl⟩:=hq; exact (hy j hj).wp _ _ (hl _ _ hst)
 | _=>exact ⟨st',hst,hq⟩⟩
theorem zb5 (hT : zaY P T) (hmix : P.follows .mixedOrders=true) {f : FuncId} {fn : Func} {c : Code} {args : List SV} {me : List (Nat×ME)} {re : List Res} {X : List Nat} {E : Env} {w : World} {R : Ending->World->Prop} {post : List SV->SS->Prop}
  (hf : P.funcs[f]?=some fn) (hb : fn.body=some c) (hn : args.length<=fn.ntmps) (hmem : zaV ⟨w,X,fn.ntmps⟩ E me re w)
  (hs : WPS P ⟨w,X,fn.ntmps⟩ c ⟨zdx 0 args,me,re⟩ (retQ T fn post))
  (hR : ∀ l st E' w',post l st->zaV ⟨w,X,fn.ntmps⟩ E' st.me st.re w'->R (.returned (retV (l.map (SV.real E')))) w') :
  Calls P f (args.map (SV.real E)).toArray w R:=by
 refine (callsIn_wide (n:=0)).1 ?_;refine callsIn_of_wp_marks (F:=Fence.wide) (n:=0) hf hb trivial ?_ rfl;have hSR : SR ⟨w,X,fn.ntmps⟩ ⟨zdx 0 args,me,re⟩ { tmps:=(args.map (SV.real E)).toArray++Array.replicate (fn.ntmps-(args.map (SV.real E)).toArray.size) undef,defers:=[] } w:=by
  refine ⟨E,by simp; omega,⟨[],rfl,List.nodup_nil,by simp⟩,fun i sv hi=>?_,hmem⟩;have:=(znC args 0 i hi).2;simp only [zza] at this;have hlt : i<args.length:=(zyz.1 this).1;rw [zzb (by simpa using hlt)];simp [this]
 refine wpIn_mono (hs.wp _ _ hSR) ?_;rintro e a' w' ⟨st,hst,hq⟩;have key : zsM T fn st post->LeavesInM Fence.wide 0 P fn a'.tmps R a'.defers .returning w':=by
  intro hv;unfold zsM at hv;split at hv
  ·rename_i l hl;obtain ⟨E',hE⟩:=hst;obtain ⟨bs,hbs,hnd,hall⟩:=hE.defers;rw [hbs];refine zkO (ro:=none) (C:=⟨w,X,fn.ntmps⟩) (E:=E') (st:=st) (fun w2 hm2=>⟨retV (l.map (SV.real E')),?_,hR l st E' w2 hv hm2⟩) bs w' hnd hall hE.mem;have hrr:=zlM hT hE hm2 hl;rw [zn8,zxy,Array.mapM_eq_mapM_toList,Sem.run_map,hrr];simp only [Result.andThen,zxZ]
   congr 1
   rcases h : l.map (SV.real E') with _ | ⟨x,_ | ⟨y,r⟩⟩
   ·simp [retV]
   ·simp [retV]
   ·simp [retV]
  ·exact hv.elim
 cases e with
 | normal=>exact key hq
 | ret=>exact key hq
 | exit id=>exact hq.elim
 | goto l=>exact hq.elim
 | panic ch=>exact hq.elim
 | outgrown=>exact hq.elim

end
abbrev zze:=@List.drop_drop
abbrev zzd:=@List.drop_eq_getElem_cons
abbrev zzc:=@Bool.and_true

theorem zen : ∀ (k1 k2 : List LK) (xs ys : List Value) (r : Bool),eqL (k1++k2) xs ys=some r ->
  ∃ r1 r2,eqL k1 (xs.take k1.length) (ys.take k1.length)=some r1/\eqL k2 (xs.drop k1.length) (ys.drop k1.length)=some r2/\r=(r1&&r2)/\(xs.take k1.length).length=k1.length/\(ys.take k1.length).length=k1.length
 | [],k2,xs,ys,r,h=>⟨true,r,by simp [eqL],by simpa using h,by simp,by simp,by simp⟩
 | k::k1,k2,[],ys,r,h=>by cases k <;> simp [eqL] at h
 | k::k1,k2,x::xs,[],r,h=>by cases k <;> cases x <;> simp [eqL] at h
 | .b::k1,k2,x::xs,y::ys,r,h=>by
  cases x <;> cases y <;> simp only [zyw,eqL] at h <;> try (cases h; done)
  split at h
  ·rename_i c hc
   cases h
   obtain ⟨r1,r2,h1,h2,h3,h4,h5⟩:=zen k1 k2 xs ys c hc;exact ⟨_,r2,by simp only [zxR,zyv,eqL,h1]; rfl,by simpa using h2,by rw [h3,Bool.and_assoc],by simpa using h4,by simpa using h5⟩
  ·cases h
 | .s::k1,k2,x::xs,y::ys,r,h=>by
  cases x <;> cases y <;> simp only [zyw,eqL] at h <;> try (cases h; done)
  split at h
  ·rename_i c hc
   cases h
   obtain ⟨r1,r2,h1,h2,h3,h4,h5⟩:=zen k1 k2 xs ys c hc;exact ⟨_,r2,by simp only [zxR,zyv,eqL,h1]; rfl,by simpa using h2,by rw [h3,Bool.and_assoc],by simpa using h4,by simpa using h5⟩
  ·cases h
 | .i k::k1,k2,x::xs,y::ys,r,h=>by
  cases x <;> cases y <;> simp only [zyw,eqL] at h <;> try (cases h; done)
  rename_i q1 a q2 b;split at h
  ·rename_i c hc;by_cases hq : (decide (k=q1)&&decide (k=q2))=true
   ·rw [hq] at h
    cases h
    obtain ⟨r1,r2,h1,h2,h3,h4,h5⟩:=zen k1 k2 xs ys c hc;exact ⟨_,r2,by simp only [zxR,zyv,eqL,h1,hq,cond_true]; rfl,by simpa using h2,by rw [h3,Bool.and_assoc],by simpa using h4,by simpa using h5⟩
   ·rw [zxG] at hq; rw [hq] at h; cases h
  ·cases h

def zhY (agg : Bool) (l : List Value) : Value:=if agg then .agg l.toArray else l.getD 0 undef
structure EqIn (P : Program) (d : Nat) (t : TypeId) (ks : List LK) : Prop where
 size : P.cellsOf t=ks.length
 info : (P.info? t).isSome=true
 agg : ∃ g,(∀ w,(isAgg t).run P w=.ok g w)/\(g=false->ks.length=1)/\∀ xs ys r w,eqL ks xs ys=some r->(Op.equalIn d t (zhY g xs) (zhY g ys)).run P w=.ok r w

section
variable {P : Program}
theorem zb6 {t : TypeId} {d : TypeDesc} (h : P.underlying t=some d) (w : World) : (isAgg t).run P w=.ok (zbn d) w:=by
 unfold isAgg;rw [zxy,run_underlying h]
 cases d <;> simp [go_sem,zbn]
theorem EqIn.bool {t : TypeId} (d : Nat) (h : P.underlying t=some .bool) (hi : (P.info? t).map (·.size)=some 1) : EqIn P (d+1) t [.b]:=by
 obtain ⟨i,h1,h2⟩ : ∃ i,P.info? t=some i/\i.size=1:=by cases hx : P.info? t with | none=>rw [hx] at hi; cases hi | some i=>rw [hx] at hi; exact ⟨i,rfl,by simpa using hi⟩
 refine ⟨by simp [Program.cellsOf,h1,h2],by rw [h1]; rfl,false,zb6 h,fun _=>rfl,fun xs ys r w he=>?_⟩;rcases xs with _ | ⟨x,xs⟩
 ·simp [eqL] at he
 rcases ys with _ | ⟨y,ys⟩
 ·cases x <;> simp [eqL] at he
 cases x <;> cases y <;> simp only [eqL] at he <;> try (cases he; done)
 rcases xs with _ | ⟨x,xs⟩ <;> rcases ys with _ | ⟨y,ys⟩ <;> simp only [eqL] at he <;> try (cases he; done)
 cases he
 simp only [zhY,zyi,if_false,List.getD_cons_zero,zzc];exact run_equalIn_bool' w d t _ _ h
theorem EqIn.str {t : TypeId} (d : Nat) (h : P.underlying t=some .string) (hi : (P.info? t).map (·.size)=some 1) : EqIn P (d+1) t [.s]:=by
 obtain ⟨i,h1,h2⟩ : ∃ i,P.info? t=some i/\i.size=1:=by cases hx : P.info? t with | none=>rw [hx] at hi; cases hi | some i=>rw [hx] at hi; exact ⟨i,rfl,by simpa using hi⟩
 refine ⟨by simp [Program.cellsOf,h1,h2],by rw [h1]; rfl,false,zb6 h,fun _=>rfl,fun xs ys r w he=>?_⟩;rcases xs with _ | ⟨x,xs⟩
 ·simp [eqL] at he
 rcases ys with _ | ⟨y,ys⟩
 ·cases x <;> simp [eqL] at he
 cases x <;> cases y <;> simp only [eqL] at he <;> try (cases he; done)
 rcases xs with _ | ⟨x,xs⟩ <;> rcases ys with _ | ⟨y,ys⟩ <;> simp only [eqL] at he <;> try (cases he; done)
 cases he
 simp only [zhY,zyi,if_false,List.getD_cons_zero,zzc];exact run_equalIn_string w d t _ _ h
theorem EqIn.int {t : TypeId} {k : IntKind} (d : Nat) (h : P.underlying t=some (.int k)) (hi : (P.info? t).map (·.size)=some 1) : EqIn P (d+1) t [.i k]:=by
 obtain ⟨i,h1,h2⟩ : ∃ i,P.info? t=some i/\i.size=1:=by cases hx : P.info? t with | none=>rw [hx] at hi; cases hi | some i=>rw [hx] at hi; exact ⟨i,rfl,by simpa using hi⟩
 refine ⟨by simp [Program.cellsOf,h1,h2],by rw [h1]; rfl,false,zb6 h,fun _=>rfl,fun xs ys r w he=>?_⟩;rcases xs with _ | ⟨x,xs⟩
 ·simp [eqL] at he
 rcases ys with _ | ⟨y,ys⟩
 ·cases x <;> simp [eqL] at he
 cases x <;> cases y <;> simp only [eqL] at he <;> try (cases he; done)
 rename_i q1 a q2 b;rcases xs with _ | ⟨x,xs⟩ <;> rcases ys with _ | ⟨y,ys⟩ <;> simp only [eqL] at he <;> try (cases he; done)
 by_cases hq : (decide (k=q1)&&decide (k=q2))=true
 ·rw [hq] at he
  cases he
  simp only [zxV,zxY] at hq;obtain ⟨rfl,rfl⟩:=hq;simp only [zhY,zyi,if_false,List.getD_cons_zero,zzc];exact run_equalIn_int w d t _ _ _ _ h
 ·rw [zxG] at hq; rw [hq] at he; cases he

inductive FieldsEq (P : Program) (d : Nat) : Nat->List Field->List LK->Prop
 | nil (off : Nat) : FieldsEq P d off [] []
 | cons {off : Nat} {f : Field} {fs : List Field} {k1 k2 : List LK} (hn : (f.name == "_") = false) (ho : f.offset = off) (he : EqIn P d f.type k1) (hr : FieldsEq P d (off + k1.length) fs k2) : FieldsEq P d off (f :: fs) (k1 ++ k2)

theorem zdX {t : TypeId} {d : Nat} {ks : List LK} (h : EqIn P d t ks) {g : Bool} (hg : ∀ w,(isAgg t).run P w=.ok g w) (h1 : g=false->ks.length=1) {cs : Array Value} {off : Nat} (hlen : ((cs.toList.drop off).take ks.length).length=ks.length) (w : World) :
  (part t cs off).run P w=.ok (zhY g ((cs.toList.drop off).take ks.length)) w:=by
 unfold part;rw [zxy,hg];simp only [Result.andThen]
 cases g with
 | true =>
  simp only [if_true];have hs : (sizeOf t).run P w=.ok ks.length w:=by
   obtain ⟨i,hi⟩:=zx5.1 h.info;rw [run_sizeOf w hi,h.size]
  rw [zxy,hs];simp only [Result.andThen,zxZ,zhY,if_true]
  congr 2
  apply zyh;rw [Array.toList_extract];simp [List.extract]
 | false =>
  simp only [zyi,if_false];have h1':=h1 rfl;rw [h1'] at hlen ⊢;have hlt : off<cs.size:=by simp at hlen; omega
  have : cs[off]?=some cs[off]:=by simp [hlt]
  rw [this];have e : (cs.toList.drop off).take 1=[cs[off]]:=by
   rw [zzd (by simpa using hlt)];simp
  rw [e];rfl

theorem zhS {d : Nat} {xs ys : Array Value} {w : World} : ∀ {off : Nat} {fs : List Field} {ks : List LK} {r : Bool},FieldsEq P d off fs ks->eqL ks (xs.toList.drop off) (ys.toList.drop off)=some r->(Op.eqFields d xs ys fs).run P w=.ok r w
 | off,[],_,r,.nil _,h=>by
  have : r=true:=by
   revert h
   rcases xs.toList.drop off with _ | ⟨x,xs⟩ <;> rcases ys.toList.drop off with _ | ⟨y,ys⟩ <;> intro h <;> simp [eqL] at h;exact h
  subst this;simp [Op.eqFields]
 | off,f::fs,_,r,.cons (k1:=k1) (k2:=k2) hn ho he hr,h=>by
  have hn' : f.name ≠ "_" := by simpa using hn
  obtain ⟨r1,r2,h1,h2,rfl,h4,h5⟩:=zen k1 k2 _ _ _ h;obtain ⟨g,hg,hg1,heq⟩:=he.agg;have hx:=zdX he hg hg1 h4 w;have hy:=zdX he hg hg1 h5 w;rw [Op.eqFields,zxJ hn',ho];rw [zxy,hx];simp only [Result.andThen];rw [zxy,hy];simp only [Result.andThen];rw [zxy,heq _ _ _ _ h1];simp only [Result.andThen];rw [zze,zze] at h2;have ih:=zhS (w:=w) hr h2
  cases r1
  ·simp
  ·simpa using ih

theorem EqIn.struct {t : TypeId} {d : Nat} {fs : Array Field} {ks : List LK} (hu : P.underlying t=some (.struct fs)) (hp : P.stoodInHeld t=false) (hi : (P.info? t).map (·.size)=some ks.length) (hf : FieldsEq P d 0 fs.toList ks) : EqIn P (d+1) t ks:=by
 obtain ⟨i,h1,h2⟩ : ∃ i,P.info? t=some i/\i.size=ks.length:=by cases hx : P.info? t with | none=>rw [hx] at hi; cases hi | some i=>rw [hx] at hi; exact ⟨i,rfl,by simpa using hi⟩
 refine ⟨by simp [Program.cellsOf,h1,h2],by rw [h1]; rfl,true,zb6 hu,fun h=>(by cases h),fun xs ys r w he=>?_⟩;have hfs : P.fieldsOf t=fs:=by simp [Program.fieldsOf,hu]
 simp only [zhY,if_true];rw [run_equalIn_struct w d t _ _ (by rw [hfs]; exact hu) hp,hfs];exact zhS hf (by simpa using he)

abbrev zzf:=@EqIn.struct
theorem zcy.of {t : TypeId} {ks : List LK} {fs : Array Field} (hu : P.underlying t=some (.struct fs)) (hg : P.eqGuardType P.depth t=false) (h : EqIn P 10000 t ks) : zcy P t ks:=by
 intro xs ys r x y w he;obtain ⟨g,hag,_,heq⟩:=h.agg;have hgt : g=true:=by
  have:=zb6 hu w;rw [hag w] at this;simpa [zbn] using this
 subst hgt;have h1:=heq xs.toList ys.toList r w he;simp only [zhY,if_true,Array.toArray_toList] at h1;constructor
 ·rw [zxy,run_eqGuard_agg w .eql t x y xs ys hg];simp only [Result.andThen,binOp,Op.equal];rw [zxy];show ((Op.equalIn 10000 t (.agg xs) (.agg ys)).run P w).andThen _=_;rw [h1];rfl
 ·rw [zxy,run_eqGuard_agg w .neq t x y xs ys hg];simp only [Result.andThen,binOp,Op.equal];rw [zxy];show ((Op.equalIn 10000 t (.agg xs) (.agg ys)).run P w).andThen _=_;rw [h1];rfl
abbrev zzg:=@zcy.of
end
abbrev zzw:=@List.length_drop
abbrev zzh:=@Bool.not_eq_true'

section
variable {P : Program} {T : TT} {C : Cx} {E : Env} {st st' : SS}

theorem zaf.mono {g : FuncId} {args : List SV} {d : Option Tmp} {K K' : SV->Option ME->Prop} (h : zaf P g args d st K) (hk : ∀ x m,K x m->K' x m) : zaf P g args d st K' :=
 ⟨h.enters,h.out.imp (fun ⟨r,h1,h2⟩=>⟨r,h1,hk _ _ h2⟩) (fun ⟨t,es,n,xs,h1,h2⟩=>⟨t,es,n,xs,h1,hk _ _ h2⟩)⟩
theorem zoN {o : Oper} {K K' : SS->Prop} (hk : ∀ s,K s->K' s) {x : SV} {m : Option ME} (h : updK o st K x m) : updK o st K' x m:=by
 unfold updK at *;split at h
 ·exact hk _ h
 ·split at h
  ·exact zfA (hk _) h
  ·exact h.elim
theorem zhX {o : Oper} {K K' : SS->Prop} (hk : ∀ s,K s->K' s) (h : dsop P T C o st K) : dsop P T C o st K':=by
 unfold dsop at *
 cases hd : zby C.N o.dst with
 | false=>rw [hd] at h; exact h.elim
 | true =>
  rw [hd] at h;simp only [cond_true] at h ⊢;split at h
  ·exact zfq (hk _) h
  ·split at h
   ·exact zfA (zfq (hk _)) h
   ·exact h.elim
  ·unfold ztO at *;split at h
   ·exact zgw (fun _=>hk _) h
   ·split at h
    ·split at h
     ·exact h.mono fun x m=>zoN hk
     ·exact h.elim
    ·exact h.elim
   ·exact h.elim
theorem zot {all : List Oper} {o : Oper} {K K' : SS->Prop} (hk : ∀ s,K s->K' s) (h : zjM P T C all o st K) : zjM P T C all o st K':=by
 unfold zjM at *;split at h
 ·exact zhX hk h
 ·split at h
  ·rename_i want _ _ t b _
   cases want
   ·exact zic (zbE (hk _)) (zhX hk) h
   ·exact zic (zhX hk) (zbE (hk _)) h
  ·exact zbE (zbE (hk _)) h
theorem zlC {all : List Oper} {K K' : SS->Prop} (hk : ∀ s,K s->K' s) : ∀ {l : List Oper} {st : SS},sops P T C all l st K->sops P T C all l st K'
 | [],_,h=>hk _ h
 | o::r,_,h=>zeh (fun s hs=>zlC hk hs) h
theorem zfS {all : List Oper} {late : Late} {m : Nat} {K K' : SS->Prop} (hk : ∀ s,K s->K' s) : ∀ {l : List (Nat×Oper)} {st : SS},dops P T C all late m l st K->dops P T C all late m l st K'
 | [],_,h=>hk _ h
 | (i,o)::r,st,h=>by
  simp only [dops] at h ⊢
  cases hq : isQ late m i with
  | true =>
   rw [hq] at h;simp only [cond_true] at h ⊢
   cases hl : zfB late i st o with
   | false=>rw [hl] at h; exact h.elim
   | true=>rw [hl] at h; exact zot (fun s hs=>zfS hk hs) h
  | false =>
   rw [hq] at h;simp only [cond_false] at h ⊢
   cases hl : zdl late i with
   | none=>rw [hl] at h; exact zeh (fun s hs=>zfS hk hs) h
   | some κ =>
    rw [hl] at h;simp only at h ⊢
    cases hs : zca T st o κ with
    | none=>rw [hs] at h; exact h.elim
    | some mm=>rw [hs] at h; exact zfS hk h
theorem zcG : ∀ (c : Code) {st : SS} {Q Q' : Exit->SS->Prop},(∀ e s,Q e s->Q' e s)->zcJ P T C c st Q->zcJ P T C c st Q'
 | .skip,_,_,_,hq,h=>hq _ _ h
 | .label _,_,_,_,hq,h=>hq _ _ h
 | .region _ ops draw,_,_,_,hq,h=>by
  cases draw with
  | false=>exact zlC (fun s=>hq _ s) h
  | true=>exact zak.mono h fun m l hm=>zfS (fun s=>hq _ s) hm
 | .seq x y,_,_,_,hq,h=>zcG x (fun e s hs=>by cases e with | normal=>exact zcG y hq hs | _=>exact hq _ _ hs) h
 | .cond c x y,_,_,_,hq,h=>by
  simp only [zcJ] at h ⊢;split at h
  ·exact zic (zcG x hq) (zcG y hq) h
  ·exact h.elim
 | .block id c,_,_,_,hq,h=>zcG c (fun e s hs=>by
   cases e with
   | exit j =>
    simp only at hs ⊢
    cases hb : Nat.beq j id with
    | true=>rw [hb] at hs; exact hq _ _ hs
    | false=>rw [hb] at hs; exact hq _ _ hs
   | _=>exact hq _ _ hs) h
 | .loop c,_,_,_,hq,h=>by
  obtain ⟨ι,I,μ,i,hi,hr⟩:=h;exact ⟨ι,I,μ,i,hi,fun i=>zcG c (fun e s hs=>by cases e with | normal=>exact hs | _=>exact hq _ _ hs) (hr i)⟩
 | .exit _,_,_,_,hq,h=>hq _ _ h
 | .goto _,_,_,_,hq,h=>hq _ _ h
 | .ret,_,_,_,hq,h=>hq _ _ h
 | .rangeFunc _ _ _ _,_,_,_,_,h=>h.elim
 | .scope _,_,_,_,_,h=>h.elim
 | .refuse _,_,_,_,_,h=>h.elim

theorem zal {c : Code} {Q : Exit->SS->Prop} {ι : Type} (I : ι->SS) (J : ι->Prop) (μ : ι->Nat) (i0 : ι) (h0 : J i0) (hi : SLe C st (I i0))
  (hr : ∀ i,J i->zcJ P T C c (I i) (fun e s=>match e with
   | .normal=>∃ j,J j/\μ j<μ i/\SLe C s (I j)
   | e=>Q e s)) : zcJ P T C (.loop c) st Q :=
 ⟨{ i // J i },fun i=>I i.1,fun i=>μ i.1,⟨i0,h0⟩,hi,fun i=>zcG c (fun e s hs=>by
  cases e with
  | normal=>obtain ⟨j,h1,h2,h3⟩:=hs; exact ⟨⟨j,h1⟩,h2,h3⟩
  | _=>exact hs) (hr i.1 i.2)⟩

def CP.ren (ρ : Nat->Nat) : CP->CP
 | .e x=>.e x
 | .l k=>.l (ρ k)
def TP.ren (ρ : Nat->Nat) : TP->TP
 | .e x=>.e x
 | .p k off=>.p (ρ k) off
 | .s k off n m=>.s (ρ k) off n m
 | .w k=>.w (ρ k)
def AV.ren (ρ : Nat->Nat) : AV->AV
 | .v x=>.v x
 | .p k off=>.p (ρ k) off
 | .clo f caps=>.clo f (caps.map (CP.ren ρ))
 | .s k off n m=>.s (ρ k) off n m
 | .w k=>.w (ρ k)
 | .tu xs=>.tu (xs.map (TP.ren ρ))
def SV.ren (ρ : Nat->Nat) : SV->SV
 | .o x=>.o (x.ren ρ)
 | .a xs=>.a (xs.map (AV.ren ρ))
def ME.ren (ρ : Nat->Nat) : ME->ME
 | .box cs t=>.box (cs.map (AV.ren ρ)) t
 | .sym cs t=>.sym cs t
 | .own t es n xs=>.own t es n xs
def Env.ren (E : Env) (ρ : Nat->Nat) : Env:=⟨fun k=>E.β (ρ k),fun k=>E.ω (ρ k)⟩
theorem CP.real_ren (E : Env) (ρ : Nat->Nat) (x : CP) : x.real (E.ren ρ)=(x.ren ρ).real E:=by cases x <;> rfl
theorem TP.real_ren (E : Env) (ρ : Nat->Nat) (x : TP) : x.real (E.ren ρ)=(x.ren ρ).real E:=by cases x <;> rfl
theorem AV.real_ren (E : Env) (ρ : Nat->Nat) (x : AV) : x.real (E.ren ρ)=(x.ren ρ).real E:=by
 cases x with
 | clo f caps=>simp only [AV.real,AV.ren,zx0]; congr 2; exact zxl fun y _=>CP.real_ren E ρ y
 | tu xs=>simp only [AV.real,AV.ren,zx0]; congr 2; exact zxl fun y _=>TP.real_ren E ρ y
 | _=>rfl
theorem SV.real_ren (E : Env) (ρ : Nat->Nat) (x : SV) : x.real (E.ren ρ)=(x.ren ρ).real E:=by
 cases x with
 | o x=>exact AV.real_ren E ρ x
 | a xs=>simp only [SV.real,SV.ren,zx0]; congr 2; exact zxl fun y _=>AV.real_ren E ρ y
theorem AV.map_ren (E : Env) (ρ : Nat->Nat) (xs : List AV) : xs.map (AV.real (E.ren ρ))=(xs.map (AV.ren ρ)).map (AV.real E):=by
 rw [zx0]; exact zxl fun y _=>AV.real_ren E ρ y

inductive MEle : ME->ME->Prop where
 | refl (m : ME) : MEle m m
 | sym {cs : List AV} {vs : List Value} (t : TypeId) (h : allV cs=some vs) : MEle (.box cs t) (.sym vs t)
theorem MEle.ok {m m' : ME} (h : MEle m m') {w : World} {k : Nat} (hm : MEok E w k m) : MEok E w k m':=by
 cases h with
 | refl=>exact hm
 | sym t h=>obtain ⟨b,h1,h2⟩:=hm; exact ⟨b,h1,by rw [h2,zbq E h]⟩
theorem MEok.ren {ρ : Nat->Nat} {w : World} {k : Nat} {m : ME} (h : MEok E w (ρ k) (m.ren ρ)) : MEok (E.ren ρ) w k m:=by
 cases m with
 | box cs t=>obtain ⟨b,h1,h2⟩:=h; exact ⟨b,h1,by rw [h2,AV.map_ren]⟩
 | sym cs t=>exact h
 | own t es n xs=>exact h

def TmLe (ρ : Nat->Nat) (st : SS) : List (Nat×SV)->Prop
 | []=>True
 | (i,x)::r=>lk i st.tm=some (x.ren ρ)/\TmLe ρ st r
def MeLe (ρ : Nat->Nat) (st : SS) : List (Nat×ME)->Prop
 | []=>True
 | (k,m)::r=>(∃ m',lk (ρ k) st.me=some m'/\MEle m' (m.ren ρ))/\MeLe ρ st r
def injB (ρ : Nat->Nat) : List (Nat×ME)->Bool
 | []=>true
 | (k,_)::r=>r.all (fun e=>Nat.beq e.1 k||!(Nat.beq (ρ e.1) (ρ k)))&&injB ρ r
theorem TmLe.get {ρ : Nat->Nat} : ∀ {l : List (Nat×SV)},TmLe ρ st l->∀ i x,lk i l=some x->lk i st.tm=some (x.ren ρ)
 | [],_,i,x,h=>by simp [lk] at h
 | (j,y)::r,h,i,x,hx=>by
  rw [zaB] at hx;split at hx
  ·rename_i e; subst e; cases hx; exact h.1
  ·exact TmLe.get h.2 i x hx
theorem MeLe.get {ρ : Nat->Nat} : ∀ {l : List (Nat×ME)},MeLe ρ st l->∀ i x,lk i l=some x->∃ m',lk (ρ i) st.me=some m'/\MEle m' (x.ren ρ)
 | [],_,i,x,h=>by simp [lk] at h
 | (j,y)::r,h,i,x,hx=>by
  rw [zaB] at hx;split at hx
  ·rename_i e; subst e; cases hx; exact h.1
  ·exact MeLe.get h.2 i x hx
theorem zmr {ρ : Nat->Nat} : ∀ {l : List (Nat×ME)},injB ρ l=true->∀ p∈l,∀ q∈l,ρ p.1=ρ q.1->p.1=q.1
 | [],_,p,hp,_,_,_=>by cases hp
 | (k,m)::r,h,p,hp,q,hq,e=>by
  simp only [injB,zxV,zx2,zxF,zzh] at h;have hr : ∀ z∈r,ρ z.1=ρ k->z.1=k:=fun z hz hz'=>by
   rcases h.1 z hz with h1 | h1
   ·exact zxj h1
   ·exact absurd hz' (zaH.1 h1)
  rcases zy1.1 hp with rfl | hp <;> rcases zy1.1 hq with rfl | hq
  ·rfl
  ·exact (hr q hq e.symm).symm
  ·exact hr p hp e
  ·exact zmr h.2 p hp q hq e

theorem SLe.trans {a b c : SS} (h : SLe C a b) (k : SLe C b c) : SLe C a c:=fun x w hx=>k x w (h x w hx)
theorem mrf {o : Option ME} {m : ME} (h : o=some m) : ∃ z,o=some z/\MEle z m:=⟨_,h,.refl _⟩
theorem SLe.mk (ρ : Nat->Nat) (htm : TmLe ρ st st'.tm) (hme : MeLe ρ st st'.me) (hinj : injB ρ st'.me=true) (hre : ∀ R∈st'.re,R∈st.re) (hX : C.X=[]\/∀ j,ρ (C.N+j)=C.N+j:=by first | exact .inl rfl | exact .inr (fun _=>rfl)) : SLe C st st':=by
 rintro a w ⟨E,h⟩;refine ⟨E.ren ρ,h.size,h.defers,fun i sv hi=>?_,fun k m hk=>?_,fun k m b hk hb=>?_,fun k k' m m' b hk hk' hb hb'=>?_,fun R hR=>?_,h.mem.ext,fun j b m hXj hj=>?_⟩
 ·rw [SV.real_ren]; exact h.tm i _ (htm.get i sv hi)
 ·obtain ⟨m',h1,h2⟩:=hme.get k m hk;exact MEok.ren (h2.ok (h.mem.ent _ _ h1))
 ·obtain ⟨m',h1,h2⟩:=hme.get k m hk;exact h.mem.ge _ _ _ h1 hb
 ·obtain ⟨m1,h1,_⟩:=hme.get k m hk;obtain ⟨m2,h2,_⟩:=hme.get k' m' hk';exact zmr hinj _ (ze5 hk) _ (ze5 hk') (h.mem.inj _ _ _ _ _ h1 h2 hb hb')
 ·obtain ⟨r1,r2,r3⟩:=h.mem.res R (hre R hR);refine ⟨r1,r2,fun b hb=>⟨(r3 b hb).1,fun k m hk=>?_⟩⟩;obtain ⟨m',h1,_⟩:=hme.get k m hk;exact (r3 b hb).2 _ _ h1
 ·rcases hX with hX | hX
  ·rw [hX] at hXj; simp at hXj
  ·obtain ⟨m',h1,_⟩:=hme.get _ m hj;show E.β (ρ (C.N+j))=some b;rw [hX] at h1 ⊢;exact h.mem.rig j b m' hXj h1
abbrev zzi:=@SLe.mk
theorem SLe.id (htm : TmLe (fun k=>k) st st'.tm) (hme : MeLe (fun k=>k) st st'.me) (hre : ∀ R∈st'.re,R∈st.re) : SLe C st st' :=
 zzi (fun k=>k) htm hme (by
  have : ∀ l : List (Nat×ME),injB (fun k=>k) l=true:=by
   intro l
   induction l with
   | nil=>rfl
   | cons p r ih =>
    obtain ⟨k,m⟩:=p;simp only [injB,zxV,zx2];exact ⟨fun e _=>by cases Nat.beq e.1 k <;> rfl,ih⟩
  exact this _) hre (.inr (fun _=>rfl))
abbrev zzj:=@SLe.id
theorem SLe.nil (i z t es : Nat) (hi : lk i st.tm=some (.o (.v (.slice none 0 0)))) (hz : st.has z=false) (hX : C.X=[]:=by rfl) : SLe C st ⟨(i,.o (.w z))::st.tm,(z,.own t es 0 [])::st.me,st.re⟩:=by
 rintro a w ⟨E,h⟩;have hbut:=zyx E z none (0,0);have hz' : ∀ {j m},lk j st.me=some m->j≠z:=fun hj=>(zxE hz hj).1
 refine ⟨E.setO z none (0,0),h.size,h.defers,fun j sv hj=>?_,fun k m hk=>?_,fun k m b hk hb=>?_,fun k k' m m' b hk hk' hb hb'=>?_,fun R hR=>?_,h.mem.ext,fun j b m hXj hj=>by rw [hX] at hXj; simp at hXj⟩
 ·simp only [zaB] at hj;split at hj
  ·rename_i e; subst e; cases hj;have:=h.tm _ _ hi;rw [this];simp [SV.real,AV.real,Env.setO]
  ·rw [zxn hbut (zxC hz hj)]; exact h.tm j sv hj
 ·simp only [zaB] at hk;split at hk
  ·rename_i e; subst e; cases hk;simp only [MEok,Env.setO,if_true,zyp];exact zyQ _ _ _ _
  ·rename_i e; exact (h.mem.ent k m hk).but hbut e (zxE hz hk).2
 ·simp only [zaB] at hk;split at hk
  ·rename_i e; subst e; simp [Env.setO] at hb
  ·rename_i e; rw [(hbut _ e).1] at hb; exact h.mem.ge _ _ _ hk hb
 ·simp only [zaB] at hk hk';split at hk
  ·rename_i e; subst e; simp [Env.setO] at hb
  ·rename_i e;split at hk'
   ·rename_i e'; subst e'; simp [Env.setO] at hb'
   ·rename_i e';rw [(hbut _ e).1] at hb;rw [(hbut _ e').1] at hb';exact h.mem.inj _ _ _ _ _ hk hk' hb hb'
 ·obtain ⟨r1,r2,r3⟩:=h.mem.res R hR;refine ⟨r1,r2,fun b hb=>⟨(r3 b hb).1,fun k m hk=>?_⟩⟩;simp only [zaB] at hk;split at hk
  ·rename_i e; subst e; simp [Env.setO]
  ·rename_i e; rw [(hbut _ e).1]; exact (r3 b hb).2 _ _ hk

def SlF (A : Option Addr) (xs : List Value) (w : World) : Prop:=xs=[]\/∃ b o,A=some ⟨b,o,none⟩/\∀ j v,xs[j]?=some v->w.cell? ⟨b,o+j,none⟩=some v
def SlB (A : Option Addr) : List Value->List Nat
 | []=>[]
 | _::_=>match A with
  | some a=>[a.block]
  | none=>[]
def zai (A : Option Addr) (xs : List Value) : Res:=⟨SlB A xs,SlF A xs⟩
def Res.ok (R : Res) : Prop:=R.stable/\∀ w,R.φ w->∀ b∈R.bs,IsC w b
def facts (re : List Res) (w : World) : Prop:=∀ R∈re,R.φ w

theorem SlF.cell {A : Option Addr} {xs : List Value} {w : World} (h : SlF A xs w) {j : Nat} {v : Value} (hj : xs[j]?=some v) : ∃ b o,A=some ⟨b,o,none⟩/\w.cell? ⟨b,o+j,none⟩=some v:=by
 rcases h with rfl | ⟨b,o,hA,hc⟩
 ·simp at hj
 ·exact ⟨b,o,hA,hc j v hj⟩
theorem SlF.some {A : Option Addr} {xs : List Value} {w : World} (h : SlF A xs w) (hx : xs≠[]) : A.isSome=true:=by
 rcases h with rfl | ⟨b,o,rfl,_⟩
 ·exact absurd rfl hx
 ·rfl
theorem zai.ok (A : Option Addr) (xs : List Value) : (zai A xs).ok:=by
 have hlk : ∀ {w : World} {b o j : Nat} {v : Value},w.cell? ⟨b,o,none⟩=some v->IsC w b:=by
  intro w b o j v h;unfold World.cell? at h;unfold IsC
  cases hb : w.heap[b]? with
  | none=>rw [show w.heap[(Addr.mk b o none).block]?=none from hb] at h; cases h
  | some ob =>
   cases ob with
   | cells cs t fr=>exact ⟨_,rfl,rfl⟩
   | _=>rw [show w.heap[(Addr.mk b o none).block]?=some _ from hb] at h; cases h
 refine ⟨fun w w' h hb=>?_,fun w h b hb=>?_⟩
 ·rcases h with h | ⟨b,o,hA,hc⟩
  ·exact .inl h
  ·rcases xs with _ | ⟨x,r⟩
   ·exact .inl rfl
   ·refine .inr ⟨b,o,hA,fun j v hj=>?_⟩;have:=hb b (by simp [zai,SlB,hA]);rw [World.cell?_of_block this];exact hc j v hj
 ·rcases xs with _ | ⟨x,r⟩
  ·simp [zai,SlB] at hb
  ·obtain ⟨b',o,hA,hc⟩:=SlF.cell (j:=0) h rfl;simp only [zai,SlB,hA,zyZ] at hb;subst hb;exact hlk (j:=0) hc

abbrev zzk:=@zai.ok
theorem zaV.init (w : World) (X : List Nat) (N : Nat) (E : Env) {re : List Res} (hok : ∀ R∈re,R.ok) (hre : facts re w) : zaV ⟨w,X,N⟩ E [] re w :=
 ⟨fun _ _ h=>by simp [lk] at h,fun _ _ _ h=>by simp [lk] at h,fun _ _ _ _ _ h=>by simp [lk] at h,fun R hR=>⟨(hok R hR).1,hre R hR,fun b hb=>⟨(hok R hR).2 w (hre R hR) b hb,fun _ _ h=>by simp [lk] at h⟩⟩,Ext.refl _ _,fun _ _ _ _ h=>by simp [lk] at h⟩

theorem zuh {w : World} {base t es n : Nat} {v : Value} {xs : List Value} (h : w.ownsRow base t es v n xs) : ∃ A c,v=.slice A n c/\SlF A xs w:=by
 obtain ⟨h1,⟨rfl,rfl⟩ | ⟨g,cap,cur,rfl,_,h4,h5,h6,h7,h8⟩⟩:=h
 ·exact ⟨none,0,rfl,.inl (zyO.1 (by simpa using h1))⟩
 ·refine ⟨_,cap,rfl,.inr ⟨g,0,rfl,fun j v hj=>?_⟩⟩;rw [zcg h4,zyo];rw [<-h8,zx7] at hj;split at hj
  ·simpa using hj
  ·cases hj
theorem zuo {w : World} {k t es n : Nat} {xs : List Value} (h : MEok E w k (.own t es n xs)) : ∃ A c,(SV.o (.w k)).real E=.slice A n c/\SlF A xs w:=zuh h

structure FnM (P : Program) (f : FuncId) (vs : List Value) (pre : World->Prop) (R : World->Ending->World->Prop) : Prop where
 enters : Enters P f
 calls : ∀ w,pre w->Calls P f vs.toArray w (R w)
abbrev Fn (P : Program) (f : FuncId) (vs : List Value) (r : Value) : Prop:=FnM P f vs (fun _=>True) (zaR r)

def zql (r : Value) (l : List SV) (_ : SS) : Prop:=∃ vs,l=vsv vs/\retV vs=r
def zuC (t es n : Nat) (xs : List Value) (l : List SV) (st : SS) : Prop:=∃ k,l=[.o (.w k)]/\lk k st.me=some (.own t es n xs)

theorem zkg {w : World} {t es n : Nat} {v : Value} {xs : List Value} {B : Nat} (h : w.ownsRow 0 t es v n xs) (hb : ∀ b,v.ownBlock=some b->B<=b) : w.ownsRow B t es v n xs:=by
 obtain ⟨h1,h2 | ⟨g,cap,cur,rfl,_,h4⟩⟩:=h
 ·exact ⟨h1,.inl h2⟩
 ·exact ⟨h1,.inr ⟨g,cap,cur,rfl,hb g rfl,h4⟩⟩

theorem FnM.ofS (hT : zaY P T) (hmix : P.follows .mixedOrders=true) {f : FuncId} {fn : Func} {c : Code} {vs : List Value} {re : List Res} {post : List SV->SS->Prop} {R : World->Ending->World->Prop}
  (hf : P.funcs[f]? = some fn) (hb : fn.body = some c) (hnm : (fn.name == "runtime.NumGoroutine") = false) (hn : vs.length <= fn.ntmps) (hok : ∀ R ∈ re, R.ok)
  (hR : ∀ w l st E w',post l st->zaV ⟨w,[],fn.ntmps⟩ E st.me st.re w'->R w (.returned (retV (l.map (SV.real E)))) w')
  (hs : ∀ w,facts re w->WPS P ⟨w,[],fn.ntmps⟩ c ⟨zdx 0 (vsv vs),[],re⟩ (retQ T fn post)) : FnM P f vs (facts re) R:=by
 refine ⟨zda hf hnm (by rw [hb]; rfl),fun w hw=>?_⟩;have E0 : Env:=⟨fun _=>none,fun _=>(0,0)⟩;have:=zb5 (T:=T) hT hmix (E:=E0) hf hb (by
  have : ∀ l : List Value,(vsv l).length=l.length:=fun l=>by induction l with | nil=>rfl | cons x r ih=>simp [vsv,ih]
  rw [this]; exact hn) (zaV.init w [] fn.ntmps E0 hok hw) (hs w hw) (R:=R w) (fun l st E' w' hp hm=>hR w l st E' w' hp hm)
 rw [zbk] at this;exact this
abbrev zzl:=@FnM.ofS
theorem FnM.of (hT : zaY P T) (hmix : P.follows .mixedOrders=true) {f : FuncId} {fn : Func} {c : Code} {vs : List Value} {re : List Res} {post : List SV->SS->Prop} {R : World->Ending->World->Prop}
  (hf : P.funcs[f]? = some fn) (hb : fn.body = some c) (hnm : (fn.name == "runtime.NumGoroutine") = false) (hn : vs.length <= fn.ntmps) (hok : ∀ R ∈ re, R.ok)
  (hR : ∀ w l st E w',post l st->zaV ⟨w,[],fn.ntmps⟩ E st.me st.re w'->R w (.returned (retV (l.map (SV.real E)))) w')
  (hs : ∀ w,facts re w->zcJ P T ⟨w,[],fn.ntmps⟩ c ⟨zdx 0 (vsv vs),[],re⟩ (retQ T fn post)) : FnM P f vs (facts re) R :=
 zzl hT hmix hf hb hnm hn hok hR (fun w hw=>zy7 hT hmix (hs w hw))
abbrev zzm:=@FnM.of
theorem zeS {r : Value} {w : World} {N : Nat} {l : List SV} {st : SS} {E : Env} {w' : World} (h : zql r l st) (hm : zaV ⟨w,[],N⟩ E st.me st.re w') : zaR r w (.returned (retV (l.map (SV.real E)))) w':=by
 obtain ⟨vs,rfl,rfl⟩:=h;exact ⟨by rw [zbk],hm.ext.below⟩
theorem znN {t es n : Nat} {xs : List Value} {w : World} {N : Nat} {l : List SV} {st : SS} {E : Env} {w' : World} (h : zuC t es n xs l st) (hm : zaV ⟨w,[],N⟩ E st.me st.re w') : zbD t es n xs w (.returned (retV (l.map (SV.real E)))) w':=by
 obtain ⟨k,rfl,hk⟩:=h;refine ⟨_,rfl,zkg (hm.ent _ _ hk) (fun b hb=>?_),hm.ext.below⟩;have hbk : E.β k=some b:=by
  replace hb : Value.ownBlock (.slice ((E.β k).map fun b=>⟨b,0,none⟩) (E.ω k).1 (E.ω k).2)=some b:=hb
  cases hβ : E.β k with
  | none=>rw [hβ] at hb; cases hb
  | some c=>rw [hβ] at hb; exact hb
 rcases (hm.ge _ _ _ hk hbk).1 with h | h
 ·exact h
 ·cases h

theorem Fn.of (hT : zaY P T) (hmix : P.follows .mixedOrders=true) {f : FuncId} {fn : Func} {c : Code} {vs : List Value} {r : Value}
  (hf : P.funcs[f]? = some fn) (hb : fn.body = some c) (hnm : (fn.name == "runtime.NumGoroutine") = false) (hn : vs.length <= fn.ntmps)
  (hs : ∀ w,zcJ P T ⟨w,[],fn.ntmps⟩ c ⟨zdx 0 (vsv vs),[],[]⟩ (retQ T fn (zql r))) : Fn P f vs r:=by
 have:=zzm (re:=[]) hT hmix hf hb hnm hn (by simp) (fun w l st E w' hp hm=>zeS hp hm) (fun w _=>hs w);exact ⟨this.enters,fun w _=>this.calls w (by simp [facts])⟩
abbrev zzn:=@Fn.of
theorem FnS.of (hT : zaY P T) (hmix : P.follows .mixedOrders=true) {f : FuncId} {fn : Func} {c : Code} {vs : List Value} {re : List Res} {r : Value}
  (hf : P.funcs[f]? = some fn) (hb : fn.body = some c) (hnm : (fn.name == "runtime.NumGoroutine") = false) (hn : vs.length <= fn.ntmps) (hok : ∀ R ∈ re, R.ok)
  (hs : ∀ w,facts re w->zcJ P T ⟨w,[],fn.ntmps⟩ c ⟨zdx 0 (vsv vs),[],re⟩ (retQ T fn (zql r))) : FnM P f vs (facts re) (zaR r) :=
 zzm hT hmix hf hb hnm hn hok (fun w l st E w' hp hm=>zeS hp hm) hs
abbrev zzo:=@FnS.of
theorem FnO.of (hT : zaY P T) (hmix : P.follows .mixedOrders=true) {f : FuncId} {fn : Func} {c : Code} {vs : List Value} {re : List Res} {t es n : Nat} {xs : List Value}
  (hf : P.funcs[f]? = some fn) (hb : fn.body = some c) (hnm : (fn.name == "runtime.NumGoroutine") = false) (hn : vs.length <= fn.ntmps) (hok : ∀ R ∈ re, R.ok)
  (hs : ∀ w,facts re w->zcJ P T ⟨w,[],fn.ntmps⟩ c ⟨zdx 0 (vsv vs),[],re⟩ (retQ T fn (zuC t es n xs))) : FnM P f vs (facts re) (zbD t es n xs) :=
 zzm hT hmix hf hb hnm hn hok (fun w l st E w' hp hm=>znN hp hm) hs

abbrev zzp:=@FnO.of
theorem zaC.pure {g : FuncId} {args : List SV} {vs : List Value} {R : World->Ending->World->Prop} (h : FnM P g vs (fun _=>True) R) (ha : args=vsv vs) : zaC P g args st R:=by
 subst ha;intro E w _ _;rw [zbk];exact h.calls w trivial
theorem zaC.facts {g : FuncId} {args : List SV} {vs : List Value} {re : List Res} {R : World->Ending->World->Prop} (h : FnM P g vs (facts re) R) (ha : args=vsv vs) (hre : ∀ R∈re,R∈st.re) : zaC P g args st R:=by
 subst ha;intro E w _ hw;rw [zbk];exact h.calls w (fun R hR=>hw R (hre R hR))
abbrev zzq:=@zaC.facts
theorem zae.v {g : FuncId} {args : List SV} {r : Value} {K : SV->SS->Prop} (hE : Enters P g) (h : zaC P g args st (zaR r)) (hk : K (.o (.v r)) st) : zae P C g args st K:=by
 refine ⟨hE,fun E w hm=>(h E w (fun k mm _ hk=>hm.ent k mm hk) (fun R hR=>(hm.res R hR).2.1)).mono ?_⟩;rintro e w' ⟨rfl,hb⟩;exact ⟨E,st,.o (.v r),rfl,hm.world (st:=st) hb,zxu hb,fun i sv hi=>⟨sv,hi,rfl⟩,hk⟩
abbrev zzr:=@zae.v
theorem zae.o (z : Nat) {g : FuncId} {args : List SV} {t es n : Nat} {xs : List Value} {K : SV->SS->Prop} (hE : Enters P g) (h : zaC P g args st (zbD t es n xs)) (hz : st.has z=false)
  (hzN : zby C.N (some z)=true) (hk : K (.o (.w z)) (st.mem z (.own t es n xs))) : zae P C g args st K:=by
 refine ⟨hE,fun E w hm=>(h E w (fun k mm _ hk=>hm.ent k mm hk) (fun R hR=>(hm.res R hR).2.1)).mono ?_⟩;rintro e w' ⟨v,rfl,hown,hb⟩;obtain ⟨hbut,hreal,_⟩:=zcz (E:=E) (d:=z) hown;exact ⟨zaz E z v,st.mem z (.own t es n xs),.o (.w z),by rw [show (SV.o (.w z)).real (zaz E z v)=v from hreal],zaV.own (st:=st) hm hzN hz hb hown,zxu hb,fun i sv hi=>⟨sv,hi,zxn hbut (zxC hz hi)⟩,hk⟩
abbrev zzs:=@zae.o
theorem zae.fn {g : FuncId} {args : List SV} {vs : List Value} {r : Value} {K : SV->SS->Prop} (h : Fn P g vs r) (ha : args=vsv vs) (hk : K (.o (.v r)) st) : zae P C g args st K:=zzr h.enters (zaC.pure h ha) hk
abbrev zzt:=@zae.fn
theorem zaf.fn {g : FuncId} {args : List SV} {d : Option Tmp} {vs : List Value} {r : Value} {K : SV->Option ME->Prop} (h : Fn P g vs r) (ha : args=vsv vs) (hk : K (.o (.v r)) none) : zaf P g args d st K :=
 ⟨h.enters,.inl ⟨r,zaC.pure h ha,hk⟩⟩

abbrev zzu:=@zaf.fn
theorem zan.row {A A' : Option Addr} {xs : List Value} {off n : Nat} {agg : Bool} {K : SV->Prop} (hR : zai A xs∈st.re) (hA : A'=A.map (·.add off)) (hn : off+n<=xs.length) (h0 : 0<n) (h1 : agg=false->n=1)
  (hk : K (mkV agg ((xs.drop off).take n))) : zan st n agg A' K:=by
 refine ⟨_,?_,h1,fun w hw=>?_,hk⟩
 ·rw [zyI,zzw]; omega
 ·have hs : SlF A xs w:=hw _ hR;rcases hs with rfl | ⟨b,o,rfl,hc⟩
  ·simp at hn; omega
  ·refine ⟨b,o+off,by rw [hA]; simp [zxK],fun j v hj=>?_⟩;rw [zx7] at hj;split at hj
   ·rw [zx8] at hj;rw [zxS];exact hc _ v hj
   ·cases hj

abbrev zzv:=@zan.row
end
end Go.Sx
end
section
namespace Go.Sx
open Go
abbrev zzS:=@Int.toNat_natCast
abbrev zzQ:=@List.drop_of_length_le
abbrev zzP:=@Nat.add_mul
abbrev zzO:=@List.getD_eq_getElem?_getD
abbrev zzN:=@UInt8.toNat_inj
abbrev zzM:=@Nat.mul_zero
abbrev zzL:=@List.map_append
abbrev zzK:=@Nat.div_lt_of_lt_mul
abbrev zzJ:=@List.nil_append
abbrev zzI:=@List.replicate_succ
abbrev zzH:=@Nat.mul_le_mul_left
abbrev zzG:=@Nat.mul_comm
abbrev zzF:=@Nat.mul_assoc
abbrev zzE:=@Nat.mul_add
abbrev zzD:=@Nat.pow_succ
abbrev zzC:=@Nat.div_pos
abbrev zzB:=@Nat.div_eq_of_lt
abbrev zzA:=@Nat.add_mul_div_left
abbrev zzz:=@List.getLast?_cons_cons
abbrev zzy:=@Nat.mod_add_div
abbrev zzx:=@Nat.div_lt_self

def lv (B : Nat) : List Nat->Nat
 | []=>0
 | x::r=>x+B*lv B r
def digs (B : Nat) (n : Nat) : List Nat:=if h : n=0\/B<2 then [] else n%B::digs B (n/B)
termination_by n
decreasing_by exact zzx (by omega) (by omega)

theorem zbg (B : Nat) : digs B 0=[]:=by rw [digs]; simp
theorem zdR {B n : Nat} (hB : 2<=B) (hn : 0<n) : digs B n=n%B::digs B (n/B):=by rw [digs]; rw [dif_neg (by omega)]
theorem zbN {B : Nat} (hB : 2<=B) (n : Nat) : lv B (digs B n)=n:=by
 induction n using Nat.strongRecOn with
 | _ n ih =>
  rcases zyf n with rfl | hn
  ·rw [zbg]; rfl
  ·rw [zdR hB hn,lv,ih _ (zzx hn (by omega))];exact zzy n B
theorem zb1 {B : Nat} (hB : 2<=B) (n : Nat) : ∀ x∈digs B n,x<B:=by
 induction n using Nat.strongRecOn with
 | _ n ih =>
  rcases zyf n with rfl | hn
  ·rw [zbg]; simp
  ·rw [zdR hB hn];intro x hx;rcases zy1.1 hx with rfl | hx
   ·exact zyl _ (by omega)
   ·exact ih _ (zzx hn (by omega)) x hx
theorem zhQ {B : Nat} (hB : 2<=B) : ∀ (l : List Nat),(∀ x∈l,x<B)->l.getLast?≠some 0->digs B (lv B l)=l
 | [],_,_=>zbg B
 | x::r,hl,h0=>by
  have hx : x<B:=hl x (by simp);have hr : ∀ y∈r,y<B:=fun y hy=>hl y (zxB _ hy)
  have hpos : 0<lv B (x::r)/\(r.getLast?≠some 0):=by
   rcases r with _ | ⟨y,r⟩
   ·simp at h0;exact ⟨by simp [lv]; omega,by simp⟩
   ·have h1 : (y::r).getLast?≠some 0:=by simpa [zzz] using h0
    refine ⟨?_,h1⟩;have ih:=zhQ hB (y::r) hr h1;have : lv B (y::r)≠0:=fun e=>by rw [e,zbg] at ih; cases ih
    have : 0<B*lv B (y::r):=zyN (by omega) (by omega);show 0<x+B*lv B (y::r);omega
  rw [zdR hB hpos.1];have e1 : lv B (x::r)%B=x:=by simp [lv,zye hx]
  have e2 : lv B (x::r)/B=lv B r:=by
   simp only [lv];rw [zzA _ _ (by omega),zzB hx,zyo]
  rw [e1,e2,zhQ hB r hr hpos.2]
theorem zlt {B : Nat} (hB : 2<=B) (n : Nat) : (digs B n).getLast?≠some 0:=by
 induction n using Nat.strongRecOn with
 | _ n ih =>
  rcases zyf n with rfl | hn
  ·rw [zbg]; simp
  ·rw [zdR hB hn];by_cases hz : n/B=0
   ·rw [hz,zbg];have : n<B:=by
     rcases zyW n B with h | h
     ·exact h
     ·have:=zzC h (show 0<B by omega);rw [hz] at this; omega
    simp [zye this]; omega
   ·have:=zdR hB (Nat.pos_of_ne_zero hz);have h:=ih (n/B) (zzx hn (by omega));rw [this] at h ⊢;rwa [zzz]
theorem zbL (B : Nat) : ∀ (l r : List Nat),lv B (l++r)=lv B l+B ^ l.length*lv B r
 | [],r=>by simp [lv]
 | x::l,r=>by
  simp only [zyw,lv,zbL B l r,zxR,zzD];rw [zzE,<-zzF,zzG B (B ^ l.length)]; omega
theorem zfQ {B : Nat} (hB : 0<B) : ∀ (l : List Nat),(∀ x∈l,x<B)->lv B l<B ^ l.length
 | [],_=>by simp [lv]
 | x::r,h=>by
  have hx:=h x (by simp);have ih:=zfQ hB r (fun y hy=>h y (zxB _ hy));simp only [lv,zxR,zzD];have : B*(lv B r+1)<=B*B ^ r.length:=zzH _ ih;rw [zzE,zyR] at this;rw [zzG (B ^ r.length) B]; omega
theorem zjH (B : Nat) : ∀ n,lv B (List.replicate n 0)=0
 | 0=>rfl
 | n+1=>by simp [zzI,lv,zjH B n]
def tr : List Nat->List Nat
 | []=>[]
 | x::r=>match tr r with
  | []=>if x=0 then [] else [x]
  | y::s=>x::y::s
theorem zfL : ∀ l : List Nat,∃ k,l=tr l++List.replicate k 0
 | []=>⟨0,rfl⟩
 | x::r=>by
  obtain ⟨k,hk⟩:=zfL r;simp only [tr];split
  ·rename_i h;rw [h,zzJ] at hk;split
   ·rename_i hx; exact ⟨k+1,by rw [hx,zzI,<-hk]; rfl⟩
   ·exact ⟨k,by rw [<-hk]; rfl⟩
  ·rename_i y s h;exact ⟨k,by rw [h] at hk; rw [zyw,<-hk]⟩
theorem zqf : ∀ l : List Nat,(tr l).getLast?≠some 0
 | []=>by simp [tr]
 | x::r=>by
  have ih:=zqf r;simp only [tr];split
  ·split
   ·simp
   ·rename_i hx; simpa using hx
  ·rename_i y s h;rw [h] at ih;rwa [zzz]
theorem zgM {B : Nat} (hB : 2<=B) {l : List Nat} (hl : ∀ x∈l,x<B) : tr l=digs B (lv B l):=by
 obtain ⟨k,hk⟩:=zfL l;have hlv : lv B l=lv B (tr l):=by
  conv=>lhs; rw [hk]
  rw [zbL,zjH]; simp
 rw [hlv,zhQ hB _ (fun x hx=>hl x (by rw [hk]; exact zyT _ hx)) (zqf l)]
theorem zck (l : List Nat) : (tr l).length<=l.length:=by
 obtain ⟨k,hk⟩:=zfL l
 conv=>rhs; rw [hk]
 simp
theorem zc7 (l : List Nat) : l.take (tr l).length=tr l:=by
 obtain ⟨k,hk⟩:=zfL l;have : (tr l++List.replicate k 0).take (tr l).length=tr l:=List.take_left;rwa [<-hk] at this
theorem zbc {B : Nat} (hB : 2<=B) {n k : Nat} (h : n<B ^ k) : (digs B n).length<=k:=by
 induction k generalizing n with
 | zero=>have : n=0:=by simpa using h
         subst this; simp [zbg]
 | succ k ih =>
  rcases zyf n with rfl | hn
  ·simp [zbg]
  ·rw [zdR hB hn];have : n/B<B ^ k:=zzK (by rw [zzG,<-zzD]; exact h);have:=ih this;simp; omega
theorem zbF {B : Nat} (hB : 2<=B) {n : Nat} : n<B ^ (digs B n).length:=by
 have:=zfQ (B:=B) (by omega) (digs B n) (zb1 hB n);rwa [zbN hB] at this
theorem zhf {B n : Nat} (hB : 2<=B) : digs B n=[]↔n=0:=by
 constructor
 ·intro h;have:=zbN hB n;rw [h] at this; exact this.symm
 ·rintro rfl; exact zbg B
def bs (l : List UInt8) : ByteArray:=⟨⟨l⟩⟩
def nat (l : List UInt8) : Nat:=lv 256 (l.reverse.map UInt8.toNat)
def bytes (n : Nat) : List UInt8:=((digs 256 n).map UInt8.ofNat).reverse
theorem zdS : nat []=0:=rfl
theorem zdM (l : List UInt8) (x : UInt8) : nat (l++[x])=x.toNat+256*nat l:=by simp [nat,lv]
theorem zcs (x : UInt8) (l : List UInt8) : nat (x::l)=x.toNat*256 ^ l.length+nat l:=by
 simp only [nat,List.reverse_cons,zzL,zbL,zxT,zyt,lv,zyA,List.length_reverse];rw [zzM,zxL,zzG (256 ^ l.length)]; omega
theorem zoE (n : Nat) : (bytes n).reverse.map UInt8.toNat=digs 256 n:=by
 simp only [bytes,List.reverse_reverse,zx0]
 conv=>rhs; rw [<-List.map_id (digs 256 n)]
 exact zxl fun x hx=>by
  have:=zb1 (B:=256) (by omega) n x hx;simp [Function.comp,zye this]
theorem zap (n : Nat) : nat (bytes n)=n:=by rw [nat,zoE,zbN (by omega)]
theorem zkI {l : List UInt8} (h : l.head?≠some 0) : bytes (nat l)=l:=by
 have hb : ∀ x∈l.reverse.map UInt8.toNat,x<256:=fun x hx=>by
   obtain ⟨y,_,rfl⟩:=zx1.1 hx; exact y.toNat_lt
 have:=zhQ (B:=256) (by omega) (l.reverse.map UInt8.toNat) hb (by
   rw [List.getLast?_map,List.getLast?_reverse]
   cases hh : l.head? with
   | none=>simp
   | some x =>
     simp only [zxp,ne_eq,zxq];intro e;apply h;rw [hh]
     congr 1
     exact zzN.1 (by simpa using e))
 rw [bytes,nat,this,zx0];have h2 : (UInt8.ofNat∘UInt8.toNat)=id:=by funext x; simp
 rw [h2,List.map_id,List.reverse_reverse]
theorem zki {m n : Nat} (h : bytes m=bytes n) : m=n:=by rw [<-zap m,<-zap n,h]
theorem zaS : bytes 0=[]:=by simp [bytes,zbg]
theorem zde {n : Nat} : bytes n=[]↔n=0:=⟨fun h=>by rw [<-zap n,h]; rfl,fun h=>by rw [h,zaS]⟩
theorem zkK (n : Nat) : (bytes n).length=(digs 256 n).length:=by simp [bytes]
theorem zcT (l : List UInt8) : nat l<256 ^ l.length:=by
 have:=zfQ (B:=256) (by omega) (l.reverse.map UInt8.toNat) (fun x hx=>by obtain ⟨y,_,rfl⟩:=zx1.1 hx; exact y.toNat_lt);simpa [nat] using this

def zcf : List UInt8->List UInt8
 | []=>[]
 | x::r=>if x=0 then zcf r else x::r
theorem zgs : ∀ l : List UInt8,nat (zcf l)=nat l
 | []=>rfl
 | x::r=>by
  simp only [zcf];split
  ·rename_i h; subst h; rw [zgs r,zcs]; simp
  ·rfl
theorem ze8 : ∀ l : List UInt8,(zcf l).head?≠some 0
 | []=>by simp [zcf]
 | x::r=>by
  simp only [zcf];split
  ·exact ze8 r
  ·rename_i h; simpa using h
theorem zcP (l : List UInt8) : zcf l=bytes (nat l):=by rw [<-zgs l,zkI (ze8 l)]
theorem zfI : ∀ l : List UInt8,(zcf l).length<=l.length
 | []=>by simp [zcf]
 | x::r=>by
  simp only [zcf];split
  ·have:=zfI r; simp; omega
  ·simp

theorem zbs (l : List UInt8) : (bs l).toList=l:=ByteArray.toList_eq _
theorem zdw (l : List UInt8) : (bs l).size=l.length:=rfl
theorem zgn (l : List UInt8) (i j : Nat) : (bs l).extract i j=bs ((l.take j).drop i):=by
 apply ByteArray.ext;rw [ByteArray.data_extract];apply zyh;simp [bs,List.extract_eq_take_drop];rw [List.drop_take]
theorem zgP (l : List UInt8) (i : Int) : sb (bs l) i=((l.getD i.toNat 0).toNat : Int):=by
 unfold sb
 congr 2
 rw [zzO]
 congr 1
 by_cases h : i.toNat<l.length
 ·rw [zyy h];exact getElem?_pos (bs l) _ h
 ·rw [zym (by omega)];exact getElem?_neg (bs l) _ h
theorem zpc (l r : List UInt8) : bs l++bs r=bs (l++r):=by
 apply ByteArray.ext;rw [ByteArray.data_append];apply zyh;simp [bs]
theorem zpL (s : ByteArray) : s=bs s.data.toList:=by cases s; rfl

theorem wrap_i64 {n : Int} (h1 : -9223372036854775808<=n) (h2 : n<=9223372036854775807) : IntKind.i64.wrap n=n:=by rw [IntKind.wrap_i64]; omega

def rowV {α : Type} (f : α->List Value) : List α->List Value
 | []=>[]
 | x::r=>f x++rowV f r
section
variable {α : Type} {f : α->List Value} {es : Nat}
theorem zaE (f : α->List Value) : ∀ (l r : List α),rowV f (l++r)=rowV f l++rowV f r
 | [],r=>rfl
 | x::l,r=>by simp [rowV,zaE f l r]
theorem zad (hf : ∀ x,(f x).length=es) : ∀ l : List α,(rowV f l).length=l.length*es
 | []=>by simp [rowV]
 | x::l=>by simp [rowV,hf,zad hf l,zzP,zyc]
theorem zdH (hf : ∀ x,(f x).length=es) : ∀ (k : Nat) (l : List α),(rowV f l).drop (k*es)=rowV f (l.drop k)
 | 0,l=>by simp
 | k+1,[]=>by simp [rowV]
 | k+1,x::l=>by
  simp only [rowV,List.drop_succ_cons];rw [List.drop_append,zzQ (by rw [hf,zzP]; omega),hf,show (k+1)*es-es=k*es by rw [zzP]; omega,zdH hf k l]; rfl
theorem zbh (hf : ∀ x,(f x).length=es) : ∀ (k : Nat) (l : List α),(rowV f l).take (k*es)=rowV f (l.take k)
 | 0,l=>by simp [rowV]
 | k+1,[]=>by simp [rowV]
 | k+1,x::l=>by
  simp only [rowV,zyv];rw [zyG,zyJ (by rw [hf,zzP]; omega),hf,show (k+1)*es-es=k*es by rw [zzP]; omega,zbh hf k l]
theorem zdB (hf : ∀ x,(f x).length=es) {k : Nat} {l : List α} {x : α} (h : l[k]?=some x) : ((rowV f l).drop (k*es)).take es=f x:=by
 rw [zdH hf];obtain ⟨hk,rfl⟩:=zyz.1 h;rw [zzd hk,rowV,zyG,zyJ (by rw [hf]; exact zxr _),hf];simp
theorem zcc (hf : ∀ x,(f x).length=es) {k : Nat} {l : List α} (x : α) (hk : k<l.length) : putN (k*es) (f x) (rowV f l)=rowV f (l.set k x):=by
 have hlen:=zad hf l;have : (k+1)*es<=l.length*es:=zyL _ hk;rw [zb9 _ _ _ (by rw [hf,hlen]; rw [zzP] at this; omega),hf,show k*es+es=(k+1)*es by rw [zzP]; omega,zbh hf,zdH hf,List.set_eq_take_append_cons_drop,zxJ hk,zaE];simp [rowV]
theorem zb4 (x : α) : ∀ n,rowV f (List.replicate n x)=repl n (f x)
 | 0=>rfl
 | n+1=>by simp [zzI,rowV,repl,zb4 x n]

theorem zan.elem {st : SS} {A A' : Option Addr} {xs : List α} {j : Int} {n : Nat} {agg : Bool} {K : SV->Prop} (f : α->List Value) (hf : ∀ x,(f x).length=n) (hR : zai A (rowV f xs)∈st.re) (hA : A'=A.map (fun a=>a.add (j.toNat*n)))
  (hj : j.toNat<xs.length) (h0 : 0<n) (h1 : agg=false->n=1) (hk : ∀ x,xs[j.toNat]?=some x->K (mkV agg (f x))) : zan st n agg A' K:=by
 have hx : xs[j.toNat]?=some xs[j.toNat]:=zyy hj;refine zzv hR hA ?_ h0 h1 ?_
 ·rw [zad hf];have : (j.toNat+1)*n<=xs.length*n:=zyL _ hj;rw [zzP] at this; omega
 ·rw [zdB hf hx]; exact hk _ hx
abbrev zzR:=@zan.elem
theorem zan.nat {st : SS} {A A' : Option Addr} {xs : List α} {j : Nat} {n : Nat} {agg : Bool} {K : SV->Prop} {x : α} (f : α->List Value) (hf : ∀ x,(f x).length=n) (hR : zai A (rowV f xs)∈st.re) (hA : A'=A.map (fun a=>a.add (((j : Nat) : Int).toNat*n)))
  (hx : xs[j]?=some x) (hk : K (mkV agg (f x))) (h0 : 0<n:=by decide) (h1 : agg=false->n=1:=by first | exact fun _=>rfl | exact fun h=>by cases h) : zan st n agg A' K :=
 zzR (A:=A) (xs:=xs) (j:=(j : Int)) f hf hR hA (by rw [zzS]; exact (zyz.1 hx).1) h0 h1 (fun y hy=>by rw [zzS,hx] at hy; cases hy; exact hk)
theorem zbi.elem {xs : List α} {k n : Nat} {agg : Bool} {K : SV->Prop} (f : α->List Value) (hf : ∀ x,(f x).length=n) {off : Nat} (ho : off=k*n) (hj : k<xs.length) (h0 : 0<n) (h1 : agg=false->n=1) (hk : ∀ x,xs[k]?=some x->K (mkV agg (f x))) :
  zbi (rowV f xs) off n agg K:=by
 subst ho;have hx : xs[k]?=some xs[k]:=zyy hj;refine ⟨h0,f xs[k],hf _,h1,fun j x hj'=>?_,hk _ hx⟩;rw [<-zdB hf hx,zx7] at hj';split at hj'
 ·rwa [zx8] at hj'
 ·cases hj'
abbrev zzT:=@zbi.elem
end
theorem zaK {R : Res} {w : World} (h : facts [R] w) : R.φ w:=h R (zyZ.2 rfl)
theorem zbz {R S : Res} {w : World} (h : facts [R,S] w) : R.φ w/\S.φ w:=⟨h R (by simp),h S (by simp)⟩
theorem zam {α : Type} {f : α->List Value} {A : Option Addr} {xs : List α} {w : World} (h : SlF A (rowV f xs) w) (hx : 0<(rowV f xs).length) : A.isSome=true:=SlF.some h (by intro e; rw [e] at hx; cases hx)

theorem zaa {x r : Value} (h : x=r) : ∃ vs,[SV.o (.v x)]=vsv vs/\retV vs=r:=⟨[x],rfl,h⟩
theorem zau {x y r : Value} (h : Value.tuple #[x,y]=r) : ∃ vs,[SV.o (.v x),SV.o (.v y)]=vsv vs/\retV vs=r:=⟨[x,y],rfl,h⟩
theorem zar {x y z r : Value} (h : Value.tuple #[x,y,z]=r) : ∃ vs,[SV.o (.v x),SV.o (.v y),SV.o (.v z)]=vsv vs/\retV vs=r:=⟨[x,y,z],rfl,h⟩
end Go.Sx
end
section
namespace Go.Sx
open Go Go.RowKit
abbrev zzV:=@List.any_eq_true

section
variable {P : Program} {T : TT} {C : Cx} {E : Env} {st st' : SS}

def RdA (st : SS) (x : SV) (n : Nat) (xs : List Value) : Prop:=∀ E w,(∀ k mm,x.has k=true->lk k st.me=some mm->MEok E w k mm)->(∀ R∈st.re,R.φ w)->∃ A c,x.real E=.slice A n c/\n<=c/\SlF A xs w
theorem RdA.own {k t es n : Nat} {xs : List Value} (h : lk k st.me=some (.own t es n xs)) : RdA st (.o (.w k)) n xs:=fun E w hm _=>by
 have:=hm k _ (by simp [SV.has,AV.has]) h;obtain ⟨h1,hn,hh⟩:=zbH this;obtain ⟨A,c,h2,h3⟩:=zuo (E:=E) this;refine ⟨A,c,h2,?_,h3⟩;have h4 : Value.slice ((E.β k).map fun b=>⟨b,0,none⟩) (E.ω k).1 (E.ω k).2=.slice A n c:=h2;injection h4 with _ _ h5
 rcases hh with ⟨_,h6,h7⟩ | ⟨b,cur,_,_,h6,_⟩
 ·omega
 ·omega
abbrev zzU:=@RdA.own
theorem RdA.box {k n c : Nat} {xs : List Value} (h : boxV st k=some xs) (hn : n<=c) : RdA st (.o (.s k 0 n c)) n xs:=fun E w hm _=>by
 have hb : ∃ b ty,E.β k=some b/\w.heap[b]?=some (.cells xs.toArray ty (0,0)):=by
  unfold boxV at h;split at h
  ·rename_i cs' ty hl;obtain ⟨b,hb,hcells⟩:=hm k _ (by simp [SV.has,AV.has]) hl;rw [zbq E h] at hcells;exact ⟨b,ty,hb,hcells⟩
  ·rename_i cs' ty hl
   cases h
   obtain ⟨b,hb,hcells⟩:=hm k _ (by simp [SV.has,AV.has]) hl;exact ⟨b,ty,hb,hcells⟩
  ·cases h
 obtain ⟨b,ty,hb,hcells⟩:=hb;refine ⟨some ⟨b,0,none⟩,c,by simp [SV.real,AV.real,hb],hn,.inr ⟨b,0,rfl,fun j v hj=>?_⟩⟩;rw [zcg hcells,zyo];simpa using hj

theorem zid {args : List SV} {x : SV} (hx : x∈args) {k : Nat} (hk : x.has k=true) : args.any (SV.has k)=true:=zzV.2 ⟨x,hx,hk⟩
theorem zaC.sl1 {g : FuncId} {args : List SV} {R : World->Ending->World->Prop} {x : SV} {n : Nat} {xs : List Value} (mk : Value->List Value) (hx : RdA st x n xs) (hm : x∈args) (hargs : ∀ E,args.map (SV.real E)=mk (x.real E))
  (h : ∀ A c,n<=c->FnM P g (mk (.slice A n c)) (Sx.facts [zai A xs]) R) : zaC P g args st R:=by
 intro E w he hw;obtain ⟨A,c,hr,hn,hs⟩:=hx E w (fun k mm hk=>he k mm (zid hm hk)) hw;rw [hargs,hr];exact (h A c hn).calls w (fun R hR=>by rw [zyZ] at hR; subst hR; exact hs)
abbrev zzW:=@zaC.sl1
theorem zaC.sl2 {g : FuncId} {args : List SV} {R : World->Ending->World->Prop} {x y : SV} {n m : Nat} {xs ys : List Value} (mk : Value->Value->List Value) (hx : RdA st x n xs) (hy : RdA st y m ys) (hmx : x∈args) (hmy : y∈args)
  (hargs : ∀ E,args.map (SV.real E)=mk (x.real E) (y.real E)) (h : ∀ A c B d,n<=c->m<=d->FnM P g (mk (.slice A n c) (.slice B m d)) (Sx.facts [zai A xs,zai B ys]) R) : zaC P g args st R:=by
 intro E w he hw;obtain ⟨A,c,hr,hn,hs⟩:=hx E w (fun k mm hk=>he k mm (zid hmx hk)) hw;obtain ⟨B,d,hr2,hn2,hs2⟩:=hy E w (fun k mm hk=>he k mm (zid hmy hk)) hw;rw [hargs,hr,hr2];exact (h A c B d hn hn2).calls w (fun R hR=>by
  rcases zy1.1 hR with rfl | hR
  ·exact hs
  ·rw [zyZ] at hR; subst hR; exact hs2)

abbrev zzX:=@zaC.sl2
theorem SlF.take {A : Option Addr} {xs : List Value} {w : World} (h : SlF A xs w) (k : Nat) : SlF A (xs.take k) w:=by
 rcases h with rfl | ⟨b,o,hA,hc⟩
 ·exact .inl (by simp)
 ·refine .inr ⟨b,o,hA,fun j v hj=>hc j v ?_⟩;rw [zx7] at hj;split at hj
  ·exact hj
  ·cases hj
theorem zae.cutR {g : FuncId} {A : Option Addr} {n n' c : Nat} {xs : List Value} {k : Nat} {K : SV->SS->Prop} (h : FnM P g [.slice A n c] (Sx.facts [zai A xs]) (zaR (.slice A n' c))) (hR : zai A xs∈st.re)
  (hk : K (.o (.v (.slice A n' c))) { st with re:=zai A (xs.take k)::st.re }) {args : List SV} (ha : args=[.o (.v (.slice A n c))]) : zae P C g args st K:=by
 subst ha;refine ⟨h.enters,fun E w hm=>(h.calls w (fun R hR'=>by rw [zyZ] at hR'; subst hR'; exact (hm.res _ hR).2.1)).mono ?_⟩;rintro e w' ⟨rfl,hb⟩;have hm':=hm.world (st:=st) hb;refine ⟨E,{ st with re:=zai A (xs.take k)::st.re },.o (.v (.slice A n' c)),rfl,⟨hm'.ent,hm'.ge,hm'.inj,fun R hR'=>?_,hm'.ext,hm'.rig⟩,zxu hb,fun i sv hi=>⟨sv,hi,rfl⟩,hk⟩;rcases zy1.1 hR' with rfl | hR'
 ·obtain ⟨r1,r2,r3⟩:=hm'.res _ hR;refine ⟨(zzk _ _).1,SlF.take r2 k,fun b hb'=>r3 b ?_⟩;simp only [zai] at hb' ⊢;rcases xs with _ | ⟨x,r⟩
  ·simpa using hb'
  ·rcases hxk : (x::r).take k with _ | ⟨y,s⟩
   ·rw [hxk] at hb'; simp [SlB] at hb'
   ·rw [hxk] at hb'; simpa [SlB] using hb'
 ·exact hm'.res R hR'
theorem zae.cutO (z : Nat) {g : FuncId} {t es n n' k : Nat} {xs : List Value} {K : SV->SS->Prop} (h : ∀ A c,n<=c->FnM P g [.slice A n c] (Sx.facts [zai A xs]) (zaR (.slice A n' c))) (hk : lk k st.me=some (.own t es n xs)) (hn : n'<=n) (hz : st.has z=false)
  (hzN : zby C.N (some z)=true) (hK : K (.o (.w z)) { st with me:=(z,.own t es n' (xs.take (n'*es)))::rmL k st.me }) {args : List SV} (ha : args=[.o (.w k)]) : zae P C g args st K:=by
 subst ha;refine ⟨(h none n (zxr _)).enters,fun E w hm=>?_⟩;have hent:=hm.ent _ _ hk;obtain ⟨A,c,hr,hnc,hs⟩:=zzU hk E w (fun k' mm _ hk'=>hm.ent k' mm hk') (fun R hR=>(hm.res R hR).2.1);rw [show [SV.o (.w k)].map (SV.real E)=[.slice A n c] by rw [zxT,zyt,hr]];refine ((h A c hnc).calls w (fun R hR=>by rw [zyZ] at hR; subst hR; exact hs)).mono ?_;rintro e w' ⟨rfl,hb⟩;have hown : w.ownsRow 0 t es (.slice A n' c) n' (xs.take (n'*es))\/n'=0:=by
  have h2 : w.ownsRow 0 t es (.slice A n c) n xs:=by rw [<-hr]; exact hent
  obtain ⟨h3,⟨_,h4⟩ | ⟨g',cap,cur,h4,h5,h6,h7,h8,h9,h10⟩⟩:=h2
  ·right; omega
  ·left
   injection h4 with h11 _ h12
   subst h11 h12;have hle : n'*es<=n*es:=zyL _ hn;exact ⟨by rw [zyI,h3]; omega,.inr ⟨g',_,cur,rfl,h5,h6,by omega,h8,h9,by rw [<-h10,zyH]; congr 1; omega⟩⟩
 have hown' : w.ownsRow 0 t es (.slice A n' c) n' (xs.take (n'*es)):=by
  rcases hown with h | h
  ·exact h
  ·-- nothing is left of it
   have h2 : w.ownsRow 0 t es (.slice A n c) n xs:=by rw [<-hr]; exact hent
   obtain ⟨h3,⟨h4,h4'⟩ | ⟨g',cap,cur,h4,h5,h6,h7,h8,h9,h10⟩⟩:=h2
   ·injection h4 with h11 h12 h13
    subst h h11 h13;exact ⟨by simp,.inl ⟨rfl,rfl⟩⟩
   ·injection h4 with h11 _ h12
    subst h h11 h12;exact ⟨by simp,.inr ⟨g',_,cur,rfl,h5,h6,by omega,h8,h9,by simp⟩⟩
 have hfe : ({ st with tm:=[] } : SS).has z=false:=by
  unfold SS.has at hz ⊢;rw [zxD] at hz;simp only [zyn,zxU];exact hz.2
 have hβ : ∀ b,(Value.slice A n' c).ownBlock=some b->E.β k=some b:=by
  intro b hb';have h4 : Value.slice ((E.β k).map fun b=>⟨b,0,none⟩) (E.ω k).1 (E.ω k).2=.slice A n c:=hr;injection h4 with h5
  rw [<-h5] at hb'
  cases he : E.β k with
  | none=>rw [he] at hb'; cases hb'
  | some d=>rw [he] at hb'; exact hb'
 have hC : ∀ b,E.β k=some b->IsC w b:=by
  intro b hb';obtain ⟨_,_,⟨h1,_⟩ | ⟨b2,cur,h1,h2,_⟩⟩:=zbH hent
  ·rw [h1] at hb'; cases hb'
  ·rw [hb'] at h1; cases h1; exact ⟨_,h2,rfl⟩
 have hmo:=((zaV.act (st:=st) hm).own hzN hfe (kk:=some k) (row:=(Value.slice A n' c).ownBlock) (by exact zxr _) (World.grownBy.refl_ w _) (fun b hb'=>⟨k,_,rfl,hk,hβ b hb',hC b (hβ b hb')⟩) hown' (fun b hb'=>.inr hb')).mem;obtain ⟨hbut,hreal,_⟩:=zcz (E:=E) (d:=z) hown';refine ⟨zaz E z (.slice A n' c),{ st with me:=(z,.own t es n' (xs.take (n'*es)))::rmL k st.me },.o (.w z),by rw [show (SV.o (.w z)).real (zaz E z (.slice A n' c))=_ from hreal],?_,zxu hb,fun i sv hi=>⟨sv,hi,zxn hbut (zxC hz hi)⟩,hK⟩;exact zaV.world (st:={ tm:=[],me:=(z,.own t es n' (xs.take (n'*es)))::rmL k st.me,re:=st.re }) hmo hb

abbrev zzY:=@zae.cutO
end

section
variable {P : Program} {T : TT} {C : Cx} {E : Env} {st st' : SS}

def zcl (t es n : Nat) (xs : List Value) (r : Value) (w : World) (e : Ending) (w' : World) : Prop:=∃ v,e=.returned (.tuple #[v,r])/\w'.ownsRow w.heap.size t es v n xs/\Bel w.heap.size w w'
def zrd (t es n : Nat) (xs : List Value) (r : Value) (l : List SV) (st : SS) : Prop:=∃ k,l=[.o (.w k),.o (.v r)]/\lk k st.me=some (.own t es n xs)
theorem zpi {w : World} {N : Nat} {w' : World} {k t es n : Nat} {xs : List Value} (hm : zaV ⟨w,[],N⟩ E st.me st.re w') (hk : lk k st.me=some (.own t es n xs)) : w'.ownsRow w.heap.size t es ((SV.o (.w k)).real E) n xs:=by
 refine zkg (hm.ent _ _ hk) (fun b hb=>?_);have hbk : E.β k=some b:=by
  replace hb : Value.ownBlock (.slice ((E.β k).map fun b=>⟨b,0,none⟩) (E.ω k).1 (E.ω k).2)=some b:=hb
  cases hβ : E.β k with
  | none=>rw [hβ] at hb; cases hb
  | some c=>rw [hβ] at hb; exact hb
 rcases (hm.ge _ _ _ hk hbk).1 with h | h
 ·exact h
 ·cases h
theorem zeU {t es n : Nat} {xs : List Value} {r : Value} {w : World} {N : Nat} {l : List SV} {w' : World} (h : zrd t es n xs r l st) (hm : zaV ⟨w,[],N⟩ E st.me st.re w') : zcl t es n xs r w (.returned (retV (l.map (SV.real E)))) w':=by
 obtain ⟨k,rfl,hk⟩:=h;exact ⟨_,rfl,zpi hm hk,hm.ext.below⟩
theorem FnT.of (hT : zaY P T) (hmix : P.follows .mixedOrders=true) {f : FuncId} {fn : Func} {c : Code} {vs : List Value} {re : List Res} {t es n : Nat} {xs : List Value} {r : Value}
  (hf : P.funcs[f]? = some fn) (hb : fn.body = some c) (hnm : (fn.name == "runtime.NumGoroutine") = false) (hn : vs.length <= fn.ntmps) (hok : ∀ R ∈ re, R.ok)
  (hs : ∀ w,facts re w->zcJ P T ⟨w,[],fn.ntmps⟩ c ⟨zdx 0 (vsv vs),[],re⟩ (retQ T fn (zrd t es n xs r))) : FnM P f vs (facts re) (zcl t es n xs r) :=
 zzm hT hmix hf hb hnm hn hok (fun w l st E w' hp hm=>zeU hp hm) hs
theorem zae.t (z : Nat) {g : FuncId} {args : List SV} {t es n : Nat} {xs : List Value} {r : Value} {K : SV->SS->Prop} (hE : Enters P g) (h : zaC P g args st (zcl t es n xs r)) (hz : st.has z=false)
  (hzN : zby C.N (some z)=true) (hk : K (.o (.tu [.w z,.e r])) (st.mem z (.own t es n xs))) : zae P C g args st K:=by
 refine ⟨hE,fun E w hm=>(h E w (fun k mm _ hk=>hm.ent k mm hk) (fun R hR=>(hm.res R hR).2.1)).mono ?_⟩;rintro e w' ⟨v,rfl,hown,hb⟩;obtain ⟨hbut,hreal,_⟩:=zcz (E:=E) (d:=z) hown;refine ⟨zaz E z v,st.mem z (.own t es n xs),.o (.tu [.w z,.e r]),?_,zaV.own (st:=st) hm hzN hz hb hown,zxu hb,fun i sv hi=>⟨sv,hi,zxn hbut (zxC hz hi)⟩,hk⟩;have : TP.real (zaz E z v) (.w z)=v:=hreal;show _=Ending.returned (Value.tuple #[TP.real (zaz E z v) (.w z),r]);rw [this]

abbrev zzZ:=@zae.t
def zsj (v0 : Value) (x0 : List Value) (n0 : Nat) (t es n : Nat) (xs : List Value) (m : Nat) (ys : List Value) (w : World) (e : Ending) (w' : World) : Prop :=
 ∃ u v,e=.returned (.tuple #[u,v])/\w'.ownsRow w.heap.size t es u n xs/\((w'.ownsRow w.heap.size t es v m ys/\∀ b,u.ownBlock=some b->v.ownBlock≠some b)\/(v=v0/\ys=x0/\m=n0))/\Bel w.heap.size w w'
def zvj (v0 : Value) (x0 : List Value) (n0 : Nat) (t es n : Nat) (xs : List Value) (m : Nat) (ys : List Value) (l : List SV) (st : SS) : Prop :=
 (∃ k j,l=[.o (.w k),.o (.w j)]/\k≠j/\lk k st.me=some (.own t es n xs)/\lk j st.me=some (.own t es m ys)) \/
 (l=[.o (.v (.slice none 0 0)),.o (.v v0)]/\n=0/\xs=[]/\ys=x0/\m=n0)
theorem zsv {v0 : Value} {x0 : List Value} {n0 t es n m : Nat} {xs ys : List Value} {w : World} {N : Nat} {l : List SV} {w' : World} (h : zvj v0 x0 n0 t es n xs m ys l st) (hm : zaV ⟨w,[],N⟩ E st.me st.re w') :
  zsj v0 x0 n0 t es n xs m ys w (.returned (retV (l.map (SV.real E)))) w':=by
 rcases h with ⟨k,j,rfl,hkj,hk,hj⟩ | ⟨rfl,rfl,rfl,h1,h2⟩
 ·refine ⟨_,_,rfl,zpi hm hk,.inl ⟨zpi hm hj,fun b hb hb'=>hkj ?_⟩,hm.ext.below⟩;have hβ : ∀ {i : Nat},((SV.o (.w i)).real E).ownBlock=some b->E.β i=some b:=by
   intro i hi;replace hi : Value.ownBlock (.slice ((E.β i).map fun b=>⟨b,0,none⟩) (E.ω i).1 (E.ω i).2)=some b:=hi
   cases he : E.β i with
   | none=>rw [he] at hi; cases hi
   | some c=>rw [he] at hi; exact hi
  exact hm.inj _ _ _ _ _ hk hj (hβ hb) (hβ hb')
 ·exact ⟨_,_,rfl,zyQ _ _ _ _,.inr ⟨rfl,h1,h2⟩,hm.ext.below⟩
theorem FnD.of (hT : zaY P T) (hmix : P.follows .mixedOrders=true) {f : FuncId} {fn : Func} {c : Code} {vs : List Value} {re : List Res} {v0 : Value} {x0 : List Value} {n0 t es n m : Nat} {xs ys : List Value}
  (hf : P.funcs[f]? = some fn) (hb : fn.body = some c) (hnm : (fn.name == "runtime.NumGoroutine") = false) (hn : vs.length <= fn.ntmps) (hok : ∀ R ∈ re, R.ok)
  (hs : ∀ w,facts re w->zcJ P T ⟨w,[],fn.ntmps⟩ c ⟨zdx 0 (vsv vs),[],re⟩ (retQ T fn (zvj v0 x0 n0 t es n xs m ys))) : FnM P f vs (facts re) (zsj v0 x0 n0 t es n xs m ys) :=
 zzm hT hmix hf hb hnm hn hok (fun w l st E w' hp hm=>zsv hp hm) hs

theorem zaV.own' {me : List (Nat×ME)} {re : List Res} {w : World} (h : zaV C E me re w) {d : Nat} (hf : me.any (fun e=>Nat.beq e.1 d||e.2.has d)=false) {v : Value} {t es n : Nat} {xs : List Value}
  (hdN : zby C.N (some d)=true) (hown0 : w.ownsRow 0 t es v n xs) (hge : ∀ b,v.ownBlock=some b->(C.W0.heap.size<=b\/b∈C.X)/\b<w.heap.size) (hnew : ∀ b,v.ownBlock=some b->(∀ k m,lk k me=some m->E.β k≠some b)/\∀ R∈re,b ∉ R.bs) :
  zaV C (zaz E d v) ((d,.own t es n xs)::me) re w:=by
 obtain ⟨hbut,hreal,hβd⟩:=zcz (E:=E) (d:=d) hown0;have hfe : ({ tm:=[],me:=me,re:=re } : SS).has d=false:=by simp only [SS.has,zyn,zxU]; exact hf
 have hne : ∀ {j m},lk j me=some m->j≠d:=fun hj=>(zxE (st:={ tm:=[],me:=me,re:=re }) hfe hj).1
 have hβ : ∀ {j},j≠d->(zaz E d v).β j=E.β j:=fun hj=>(hbut _ hj).1
 refine ⟨fun j m hj=>?_,fun j m b hj hb=>?_,fun j j' m m' b hj hj' hb hb'=>?_,fun R hR=>?_,h.ext,fun j b m hX hj=>?_⟩
 ·simp only [zaB] at hj;split at hj
  ·rename_i e; subst e; cases hj;have : Value.slice (((zaz E j v).β j).map fun b=>⟨b,0,none⟩) ((zaz E j v).ω j).1 ((zaz E j v).ω j).2=v:=hreal;simp only [MEok,this];exact hown0
  ·rename_i e; exact (h.ent j m hj).but hbut e (zxE (st:={ tm:=[],me:=me,re:=re }) hfe hj).2
 ·simp only [zaB] at hj;split at hj
  ·rename_i e; subst e; exact hge b ((hβd b).1 hb)
  ·rename_i e; rw [hβ e] at hb; exact h.ge _ _ _ hj hb
 ·simp only [zaB] at hj hj';split at hj <;> split at hj'
  ·rename_i e e'; rw [e,e']
  ·rename_i e e'; subst e; rw [hβ e'] at hb'; exact absurd hb' ((hnew b ((hβd b).1 hb)).1 _ _ hj')
  ·rename_i e e'; subst e'; rw [hβ e] at hb; exact absurd hb ((hnew b ((hβd b).1 hb')).1 _ _ hj)
  ·rename_i e e'; rw [hβ e] at hb; rw [hβ e'] at hb'; exact h.inj _ _ _ _ _ hj hj' hb hb'
 ·obtain ⟨r1,r2,r3⟩:=h.res R hR;refine ⟨r1,r2,fun b hb=>⟨(r3 b hb).1,fun j m hj hjb=>?_⟩⟩;simp only [zaB] at hj;split at hj
  ·rename_i e; subst e; exact (hnew b ((hβd b).1 hjb)).2 R hR hb
  ·rename_i e; rw [hβ e] at hjb; exact (r3 b hb).2 j m hj hjb
 ·have hdN : d<C.N:=zxW hdN;simp only [zaB] at hj;rw [zxI (by omega)] at hj;rw [hβ (by omega)];exact h.rig j b m hX hj
theorem zaV.rm {me : List (Nat×ME)} {re : List Res} {w : World} (h : zaV C E me re w) (k : Nat) : zaV C E (rmL k me) re w:=by
 have hl : ∀ {j m},lk j (rmL k me)=some m->lk j me=some m/\j≠k:=fun {j m} hj=>by
  rw [zhG] at hj;split at hj
  ·cases hj
  ·rename_i e; exact ⟨hj,e⟩
 exact ⟨fun j m hj=>h.ent j m (hl hj).1,fun j m b hj=>h.ge j m b (hl hj).1,fun j j' m m' b hj hj'=>h.inj j j' m m' b (hl hj).1 (hl hj').1,
  fun R hR=>let ⟨r1,r2,r3⟩:=h.res R hR; ⟨r1,r2,fun b hb=>⟨(r3 b hb).1,fun j m hj=>(r3 b hb).2 j m (hl hj).1⟩⟩,h.ext,fun j b m hX hj=>h.rig j b m hX (hl hj).1⟩
theorem zsY {st : SS} {z : Nat} (hz : st.has z=false) (k : Nat) : (rmL k st.me).any (fun e=>Nat.beq e.1 z||e.2.has z)=false:=by
 unfold SS.has at hz;rw [zxD] at hz;have : ∀ l : List (Nat×ME),l.any (fun e=>Nat.beq e.1 z||e.2.has z)=false->(rmL k l).any (fun e=>Nat.beq e.1 z||e.2.has z)=false:=by
  intro l
  induction l with
  | nil=>intro _; rfl
  | cons p r ih =>
   intro h;obtain ⟨j,m⟩:=p;simp only [zxN,zxD] at h;simp only [rmL]
   cases Nat.beq j k
   ·simp only [cond_false,zxN,zxD]; exact ⟨h.1,ih h.2⟩
   ·exact ih h.2
 exact this _ hz.2
theorem zae.cutB (z : Nat) {g : FuncId} {t es n n' cp k : Nat} {cs : List AV} {xs : List Value} {K : SV->SS->Prop} (h : ∀ A c,n<=c->FnM P g [.slice A n c] (Sx.facts [zai A xs]) (zaR (.slice A n' c))) (hk : lk k st.me=some (.box cs t)) (hcs : allV cs=some xs) (hn : n'<=n) (hnc : n<=cp) (hmax : cp<=maxLen)
   (hlen : xs.length=cp*es) (hz : st.has z=false) (hzN : zby C.N (some z)=true) (hK : K (.o (.w z)) { st with me:=(z,.own t es n' (xs.take (n'*es)))::rmL k st.me }) {args : List SV} (ha : args=[.o (.s k 0 n cp)]) : zae P C g args st K:=by
 subst ha;refine ⟨(h none n (zxr _)).enters,fun E w hm=>?_⟩;have hbx : boxV st k=some xs:=by unfold boxV; rw [hk]; exact hcs
 obtain ⟨b,hb,hcells⟩:=hm.ent _ _ hk;rw [zbq E hcs] at hcells;have hreal : (SV.o (.s k 0 n cp)).real E=.slice (some ⟨b,0,none⟩) n cp:=by simp [SV.real,AV.real,hb]
 have hs : SlF (some ⟨b,0,none⟩) xs w:=.inr ⟨b,0,rfl,fun j v hj=>by rw [zcg hcells,zyo]; simpa using hj⟩;rw [show [SV.o (.s k 0 n cp)].map (SV.real E)=[.slice (some ⟨b,0,none⟩) n cp] by rw [zxT,zyt,hreal]];refine ((h _ cp hnc).calls w (fun R hR=>by rw [zyZ] at hR; subst hR; exact hs)).mono ?_;rintro e w' ⟨rfl,hbel⟩;have hm':=(hm.world (st:=st) hbel);have hcells' : w'.heap[b]?=some (.cells xs.toArray t (0,0)):=by obtain ⟨b',h1,h2⟩:=hm'.ent _ _ hk; rw [hb] at h1; cases h1; rw [zbq E hcs] at h2; exact h2
 have hle : n'*es<=cp*es:=zyL _ (by omega);have hown : w'.ownsRow 0 t es (.slice (some ⟨b,0,none⟩) n' cp) n' (xs.take (n'*es)):=⟨by rw [zyI,hlen]; omega,.inr ⟨b,cp,xs.toArray,rfl,zyD _,hcells',by omega,hmax,by simpa using hlen,by simp⟩⟩;obtain ⟨hbut,hr,_⟩:=zcz (E:=E) (d:=z) hown;have hmo:=(hm'.rm k).own' (d:=z) (zsY hz k) hzN hown (fun b' hb'=>by cases hb'; exact hm'.ge _ _ _ hk hb) (fun b' hb'=>by
   cases hb'
   refine ⟨fun j m hj hjb=>?_,fun R hR hbR=>(hm'.res R hR).2.2 b hbR |>.2 k _ hk hb⟩;rw [zhG] at hj;split at hj
   · cases hj
   · rename_i e; exact e (hm'.inj _ _ _ _ _ hj hk hjb hb))
 exact ⟨_,{ st with me:=(z,.own t es n' (xs.take (n'*es)))::rmL k st.me },.o (.w z),by rw [show (SV.o (.w z)).real (zaz E z _)=_ from hr],hmo,zxu hbel,fun i sv hi=>⟨sv,hi,zxn hbut (zxC hz hi)⟩,hK⟩

end
abbrev zz2:=@List.length_append
abbrev zz1:=@Option.some.inj
abbrev zz0:=@List.take_append_drop

section
variable {P : Program} {T : TT} {C : Cx} {E : Env} {st st' : SS}

structure FnW (P : Program) (f : FuncId) (vs : List Value) (re : List Res) (t n : Nat) (xs ys : List Value) (r : Value) : Prop where
 enters : Enters P f
 calls : ∀ (w : World) (b cap : Nat) (junk : List Value),w.heap[b]?=some (.cells (xs++junk).toArray t (0,0))->n<=cap->facts re w->(∀ R∈re,b ∉ R.bs) ->
  Calls P f (Value.slice (some ⟨b,0,none⟩) n cap::vs).toArray w fun e w'=>e=.returned r/\w'.heap[b]?=some (.cells (ys++junk).toArray t (0,0))/\w.grownBy w' (some b)/\w.drawn<=w'.drawn

theorem FnW.ofS (hT : zaY P T) (hmix : P.follows .mixedOrders=true) {f : FuncId} {fn : Func} {c : Code} {vs : List Value} {re : List Res} {t n : Nat} {xs ys : List Value} {r : Value}
  (hf : P.funcs[f]? = some fn) (hb : fn.body = some c) (hnm : (fn.name == "runtime.NumGoroutine") = false) (hn : vs.length + 1 <= fn.ntmps) (hok : ∀ R ∈ re, R.ok)
  (hs : ∀ w b cap (junk : List Value),n<=cap->facts re w->WPS P ⟨w,[b],fn.ntmps⟩ c ⟨zdx 0 (.o (.s fn.ntmps 0 n cap)::vsv vs),[(fn.ntmps,.sym (xs++junk) t)],re⟩ (retQ T fn (fun l st=>l=[.o (.v r)]/\lk fn.ntmps st.me=some (.sym (ys++junk) t)))) :
  FnW P f vs re t n xs ys r:=by
 refine ⟨zda hf hnm (by rw [hb]; rfl),fun w b cap junk hw hcap hfa hdis=>?_⟩;have E0 : Env:=⟨fun _=>none,fun _=>(0,0)⟩;have hlen : ∀ l : List Value,(vsv l).length=l.length:=fun l=>by induction l with | nil=>rfl | cons x r ih=>simp [vsv,ih]
 have hβ : (E0.setO fn.ntmps (some b) (0,0)).β fn.ntmps=some b:=by simp [Env.setO]
 have hlk : ∀ {k m},lk k [(fn.ntmps,ME.sym (xs++junk) t)]=some m->k=fn.ntmps/\m=.sym (xs++junk) t:=by
  intro k m h;rw [zaB] at h;split at h
  ·rename_i e; cases h; exact ⟨e,rfl⟩
  ·cases h
 have hmem : zaV ⟨w,[b],fn.ntmps⟩ (E0.setO fn.ntmps (some b) (0,0)) [(fn.ntmps,.sym (xs++junk) t)] re w:=by
  refine ⟨fun k m hk=>?_,fun k m c' hk hc=>?_,fun k k' m m' c' hk hk' _ _=>?_,fun R hR=>⟨(hok R hR).1,hfa R hR,fun c' hc=>⟨(hok R hR).2 w (hfa R hR) c' hc,fun k m hk hkc=>?_⟩⟩,Ext.refl _ _,fun j c' m hX hj=>?_⟩
  ·obtain ⟨rfl,rfl⟩:=hlk hk;exact ⟨b,hβ,hw⟩
  ·obtain ⟨rfl,rfl⟩:=hlk hk;rw [hβ] at hc; cases hc;exact ⟨.inr (zyZ.2 rfl),(zxv.1 hw).1⟩
  ·rw [(hlk hk).1,(hlk hk').1]
  ·obtain ⟨rfl,rfl⟩:=hlk hk;rw [hβ] at hkc; cases hkc;exact hdis R hR hc
  ·have:=(hlk hj).1;have hj0 : j=0:=by simp only at this; omega
   subst hj0;simp at hX;subst hX;exact hβ
 have:=zb5 (T:=T) hT hmix (E:=E0.setO fn.ntmps (some b) (0,0)) (args:=.o (.s fn.ntmps 0 n cap)::vsv vs) hf hb (by rw [zxR,hlen]; exact hn) hmem (hs w b cap junk hcap hfa)
  (R:=fun e w'=>e=.returned r/\w'.heap[b]?=some (.cells (ys++junk).toArray t (0,0))/\w.grownBy w' (some b)/\w.drawn<=w'.drawn) (fun l st E' w' hp hm=>by
   obtain ⟨rfl,hk⟩:=hp;have h1:=hm.rig 0 b _ rfl hk;obtain ⟨b',h2,h3⟩:=hm.ent _ _ hk;rw [show fn.ntmps+0=fn.ntmps from rfl] at h1;rw [h1] at h2; cases h2;exact ⟨rfl,h3,⟨hm.ext.os,hm.ext.tape,hm.ext.output,hm.ext.size,fun k hk' hne=>hm.ext.block k hk' (fun hx=>hne (by rw [zyZ.1 hx]))⟩,hm.ext.drawn⟩)
 rw [zxT,zbk] at this;have hreal : (SV.o (.s fn.ntmps 0 n cap)).real (E0.setO fn.ntmps (some b) (0,0))=.slice (some ⟨b,0,none⟩) n cap:=by simp [SV.real,AV.real,hβ]
 rw [hreal] at this;exact this

theorem zae.w {g : FuncId} {args : List SV} {t es n k : Nat} {xs ys : List Value} {r : Value} {K : SV->SS->Prop}
  (hk : lk k st.me=some (.own t es n xs)) (hn : 0<n) (hE : Enters P g)
  (h : ∀ E w,zaV C E st.me st.re w->∃ vs re,args.map (SV.real E)=(SV.o (.w k)).real E::vs/\FnW P g vs re t n xs ys r/\facts re w/\∀ R∈re,∀ b∈R.bs,E.β k≠some b)
  (hlen : ys.length=xs.length) (hK : K (.o (.v r)) { st with me:=setL k (.own t es n ys) st.me }) : zae P C g args st K:=by
 refine ⟨hE,fun E w hm=>?_⟩;obtain ⟨vs,re,hargs,hfn,hfa,hdis⟩:=h E w hm;have hent:=hm.ent _ _ hk;obtain ⟨hl,hω,⟨_,_,h0⟩ | ⟨b,cur,hβ,hheap,h4,h5,h6,htake⟩⟩:=zbH hent
 ·omega
 have hreal : (SV.o (.w k)).real E=.slice (some ⟨b,0,none⟩) n (E.ω k).2:=by simp [SV.real,AV.real,hβ,hω]
 rw [hargs,hreal];have hcur : cur.toList=xs++cur.toList.drop (n*es):=by rw [<-htake,zz0]
 have hheap' : w.heap[b]?=some (.cells (xs++cur.toList.drop (n*es)).toArray t (0,0)):=by rw [hheap,<-hcur]
 refine (hfn.calls w b _ _ hheap' h4 hfa (fun R hR hb=>hdis R hR b hb hβ)).mono ?_;rintro e w' ⟨rfl,hnew,hg,hdr⟩;have hoth : ∀ c,c<w.heap.size->c≠b->w'.heap[c]?=w.heap[c]?:=fun c hc hcb=>hg.block c hc (fun e=>hcb (zz1 e))
 have hbsz : b<w.heap.size:=(hm.ge _ _ _ hk hβ).2;refine ⟨E,{ st with me:=setL k (.own t es n ys) st.me },.o (.v r),rfl,?_,fun c hc=>?_,fun i sv hi=>⟨sv,hi,rfl⟩,hK⟩
 ·have hsel : ∀ {j m},lk j (setL k (.own t es n ys) st.me)=some m->(j=k/\m=.own t es n ys)\/(j≠k/\lk j st.me=some m):=by
   intro j m hj;rw [zdv] at hj;split at hj
   ·rename_i e; rw [hk] at hj; cases hj; exact .inl ⟨e,rfl⟩
   ·rename_i e; exact .inr ⟨e,hj⟩
  refine ⟨fun j m hj=>?_,fun j m c hj hc=>?_,fun j j' m m' c hj hj' hc hc'=>?_,fun R hR=>?_,?_,fun j c m hX hj=>?_⟩
  ·rcases hsel hj with ⟨rfl,rfl⟩ | ⟨hne,hj⟩
   ·show World.ownsRow _ 0 t es ((SV.o (.w j)).real E) n ys;rw [hreal];have hjl : (cur.toList.drop (n*es)).length=cur.size-n*es:=by simp
    have hle : n*es<=cur.size:=by rw [h6]; exact zyL _ h4
    refine ⟨by rw [hlen]; exact hl,.inr ⟨b,(E.ω j).2,_,rfl,zyD _,hnew,h4,h5,?_,?_⟩⟩
    ·rw [zyE,zz2,hlen,hl,hjl]; omega
    ·show (ys++cur.toList.drop (n*es)).take (n*es)=ys;rw [<-hl,<-hlen]; exact List.take_left
   ·exact (hm.ent j m hj).of_block (fun c hc=>hoth c (hm.ge _ _ _ hj hc).2 (fun e=>hne (hm.inj _ _ _ _ _ hj hk hc (by rw [e]; exact hβ))))
  ·have hsz:=hg.size;rcases hsel hj with ⟨rfl,rfl⟩ | ⟨hne,hj⟩
   ·have:=hm.ge _ _ _ hk hc; exact ⟨this.1,by omega⟩
   ·have:=hm.ge _ _ _ hj hc; exact ⟨this.1,by omega⟩
  ·have h1 : ∃ m,lk j st.me=some m:=by rcases hsel hj with ⟨rfl,_⟩ | ⟨_,hj⟩; exact ⟨_,hk⟩; exact ⟨_,hj⟩
   have h2 : ∃ m,lk j' st.me=some m:=by rcases hsel hj' with ⟨rfl,_⟩ | ⟨_,hj⟩; exact ⟨_,hk⟩; exact ⟨_,hj⟩
   obtain ⟨_,h1⟩:=h1;obtain ⟨_,h2⟩:=h2;exact hm.inj _ _ _ _ _ h1 h2 hc hc'
  ·obtain ⟨r1,r2,r3⟩:=hm.res R hR;have hne : ∀ c∈R.bs,w'.heap[c]?=w.heap[c]?:=fun c hc=>hoth c (r3 c hc).1.lt (fun e=>(r3 c hc).2 k _ hk (by rw [e]; exact hβ))
   refine ⟨r1,r1 _ _ r2 hne,fun c hc=>⟨(r3 c hc).1.keep (hne c hc),fun j m hj hjc=>?_⟩⟩;rcases hsel hj with ⟨rfl,rfl⟩ | ⟨_,hj⟩
   ·exact (r3 c hc).2 _ _ hk hjc
   ·exact (r3 c hc).2 _ _ hj hjc
  ·have hx:=hm.ext;refine ⟨hg.os.trans hx.os,hg.tape.trans hx.tape,hg.output.trans hx.output,zxs hx.size hg.size,fun c hc hnx=>?_,zxs hx.drawn hdr⟩;refine (hoth c (zxw hc hx.size) (fun e=>?_)).trans (hx.block c hc hnx);subst e;rcases (hm.ge _ _ _ hk hβ).1 with h7 | h7
   ·omega
   ·exact hnx h7
  ·rcases hsel hj with ⟨e,rfl⟩ | ⟨_,hj⟩
   ·have:=hm.rig j c _ hX (by rw [e]; exact hk); exact this
   ·exact hm.rig j c m hX hj
 ·refine (hoth c (zxv.1 hc).1 (fun e=>?_)).trans hc;subst e;rw [hheap] at hc; cases hc

end
end Go.Sx
end
section
namespace Go.Sx
abbrev zz6:=@Nat.succ_le_succ
abbrev zz5:=@Nat.div_lt_iff_lt_mul
abbrev zz4:=@Nat.one_mul
abbrev zz3:=@Nat.le_div_iff_mul_le

theorem zob {B P v1 v2 vl top u2 wl v W : Nat} (hv1 : 0<v1) (hv : v=(v1*B+v2)*P+vl) (hW : W=(top*B+u2)*P+wl) (hu2 : u2<B) (hwl : wl<P) (hvpos : 0<v) : W/v<=top/v1:=by
 rw [zz3 hv1];have h1 : W/v*v<=W:=Nat.div_mul_le_self W v;generalize W/v=q at h1 ⊢;have h2 : q*v1*(B*P)<=q*v:=by
  rw [hv,zzF];apply zzH;rw [<-zzF,zzP]; omega
 have h3 : W<(top+1)*(B*P):=by
  rw [hW];have : (top*B+u2+1)*P<=((top+1)*B)*P:=zyL _ (by rw [zzP]; omega);rw [zzP _ 1,zz4,zzF (top+1)] at this;omega
 have h4 : q*v1*(B*P)<(top+1)*(B*P):=by omega
 have:=Nat.lt_of_mul_lt_mul_right h4;omega
theorem zpZ {B P v1 v2 vl top u2 wl v W g r : Nat} (hv : v=(v1*B+v2)*P+vl) (hW : W=(top*B+u2)*P+wl) (hwl : wl<P) (hg : g*v1+r=top) (hgt : r*B+u2<g*v2) (hvpos : 0<v) : W/v<g:=by
 rw [zz5 hvpos];have h1 : top*B+u2+1<=g*(v1*B+v2):=by
  rw [<-hg,zzP,zzE,zzF]; omega
 have h2 : (top*B+u2+1)*P<=g*(v1*B+v2)*P:=zyL _ h1;rw [zzP _ 1,zz4] at h2;have h3 : g*(v1*B+v2)*P<=g*v:=by
  rw [hv,zzF]; exact zzH _ (by omega)
 omega
theorem zln {B P v1 v2 vl top u2 wl v W g r : Nat} (hB : 0<B) (hv1 : 0<v1) (hv : v=(v1*B+v2)*P+vl) (hvl : vl<P) (hW : W=(top*B+u2)*P+wl) (hg : g*v1+r=top) (hle : g*v2<=r*B+u2) (hgB : g<B) (hvpos : 0<v) : g<=W/v+1:=by
 rcases zyf g with rfl | hgp
 ·exact zyD _
 ·obtain ⟨m,rfl⟩ : ∃ m,g=m+1:=⟨g-1,by omega⟩
  suffices h : m<=W/v from zz6 h
  rw [zz3 hvpos];have h1 : (m+1)*(v1*B+v2)<=top*B+u2:=by
   rw [<-hg,zzE,zzP ((m+1)*v1) r,zzF]; omega
  have h2 : (m+1)*(v1*B+v2)*P<=W:=by
   rw [hW]; have:=zyL P h1; omega
  have h3 : v<=(v1*B+v2+1)*P:=by rw [hv,zzP _ 1,zz4]; omega
  have h4 : m*v<=m*(v1*B+v2+1)*P:=by rw [zzF]; exact zzH _ h3
  have h5 : m<=v1*B+v2:=by
   have : 1*B<=v1*B:=zyL _ hv1;omega
  have h6 : m*(v1*B+v2+1)<=(m+1)*(v1*B+v2):=by rw [zzE,zzP]; omega
  exact zxs h4 (zxs (zyL _ h6) h2)
theorem zly {W v g : Nat} (h1 : W/v<=g) (h2 : g<=W/v+1) (hv : 0<v) : (g*v<=W->g=W/v)/\(W<g*v->g=W/v+1):=by
 constructor
 ·intro h;have:=(zz3 hv).2 h;omega
 ·intro h;have:=(zz5 hv).2 h;omega
abbrev zAj:=@Rat.sub_eq_add_neg
abbrev zAi:=@Int.natAbs_natCast
abbrev zAh:=@Int.natAbs_mul
abbrev zAg:=@Nat.pow_add
abbrev zAf:=@Int.natAbs_neg
abbrev zAe:=@Nat.div_le_self
abbrev zAd:=@Rat.den_mkRat
abbrev zAc:=@Nat.lt_of_le_of_lt
abbrev zAb:=@Rat.num_mkRat
abbrev zAa:=@Nat.pow_le_pow_right
abbrev zz9:=@decide_eq_false
abbrev zz8:=@decide_eq_true
abbrev zz7:=@Rat.not_le

structure Raw where
 neg : Bool
 num : List UInt8
 den : List UInt8
deriving DecidableEq
def sg (neg : Bool) (m : Nat) : Int:=if neg then -(m : Int) else m
def dnm (m : Nat) : Nat:=if m=0 then 1 else m
def Raw.n (r : Raw) : Int:=sg r.neg (nat r.num)
def Raw.d (r : Raw) : Nat:=dnm (nat r.den)
theorem zbb (b : Bool) (m : Nat) : (sg b m).natAbs=m:=by unfold sg; split <;> omega
theorem zux (m : Nat) : 0<dnm m:=by unfold dnm; split <;> omega
def Raw.v (r : Raw) : Rat:=mkRat r.n r.d
theorem Raw.d_pos (r : Raw) : 0<r.d:=zux _
theorem Raw.d_ne (r : Raw) : r.d≠0:=Nat.ne_of_gt r.d_pos
def Q (x : Rat) : Raw:=⟨decide (x<0),bytes x.num.natAbs,if x.den=1 then [] else bytes x.den⟩
theorem zdb {x : Rat} : x.num<0↔x<0:=by
 have:=Rat.num_nonneg (q:=x);rw [<-zz7,<-this]; omega
theorem Q_n (x : Rat) : (Q x).n=x.num:=by
 show sg (decide (x<0)) (nat (bytes x.num.natAbs))=x.num;have:=zdb (x:=x);rw [zap,sg];by_cases h : x<0
 ·rw [zz8 h,zxJ rfl]; have:=this.2 h; omega
 ·rw [zz9 h,zxI (by decide)]; have : ¬x.num<0:=fun h'=>h (this.1 h'); omega
theorem Q_d (x : Rat) : (Q x).d=x.den:=by
 have:=x.den_nz;show dnm (nat (if x.den=1 then [] else bytes x.den))=x.den;by_cases h : x.den=1
 ·rw [zxJ h,zdS,h]; rfl
 ·rw [zxI h,zap,dnm,zxI this]
@[simp] theorem Q_v (x : Rat) : (Q x).v=x:=by rw [Raw.v,Q_n,Q_d,Rat.mkRat_self]
theorem ziz {x y : Rat} : Q x=Q y↔x=y:=⟨fun h=>by rw [<-Q_v x,h,Q_v],fun h=>by rw [h]⟩
theorem zd8 : Q 0=⟨false,[],[]⟩:=by simp [Q,zaS,show ¬((0 : Rat)<0) from Rat.lt_irrefl]
theorem Raw.zero_v : (⟨false,[],[]⟩ : Raw).v=0:=by rw [<-zd8,Q_v]
def Raw.ok (r : Raw) : Prop:=r=Q r.v
instance (r : Raw) : Decidable r.ok:=inferInstanceAs (Decidable (r=Q r.v))
theorem Q_ok (x : Rat) : (Q x).ok:=by rw [Raw.ok,Q_v]
def Sz (k : Nat) (x : Rat) : Prop:=x.num.natAbs<256 ^ k/\x.den<256 ^ k
theorem Sz.le {k m : Nat} {x : Rat} (h : Sz k x) (hm : k<=m) : Sz m x :=
 ⟨zxw h.1 (zAa (by decide) hm),zxw h.2 (zAa (by decide) hm)⟩
theorem Sz.mk' {k : Nat} {n : Int} {d : Nat} (h1 : n.natAbs<256 ^ k) (h2 : d<256 ^ k) (hd : d≠0) : Sz k (mkRat n d):=by
 refine ⟨?_,?_⟩
 ·rw [zAb,zxI hd];exact zAc (Int.natAbs_ediv_le_natAbs _ _) h1
 ·rw [zAd,zxI hd];exact zAc (zAe _ _) h2
theorem za7 {l : List UInt8} {k : Nat} (h : l.length<=k) : nat l<256 ^ k:=zxw (zcT l) (zAa (by decide) h)
theorem Raw.n_bound {r : Raw} {k : Nat} (h : r.num.length<=k) : r.n.natAbs<256 ^ k:=by
 rw [Raw.n,zbb]; exact za7 h
theorem Raw.d_bound {r : Raw} {k : Nat} (hk : 0<k) (h : r.den.length<=k) : r.d<256 ^ k:=by
 unfold Raw.d dnm; split
 ·exact Nat.one_lt_pow (by omega) (by decide)
 ·exact za7 h
theorem Raw.sz {r : Raw} {k : Nat} (hk : 0<k) (h1 : r.num.length<=k) (h2 : r.den.length<=k) : Sz k r.v:=Sz.mk' (Raw.n_bound h1) (Raw.d_bound hk h2) r.d_ne
theorem zbd {n k : Nat} (h : n<256 ^ k) : (bytes n).length<=k:=by rw [zkK]; exact zbc (by decide) h
def Raw.sm (k : Nat) (r : Raw) : Prop:=r.num.length<=k/\r.den.length<=k
theorem Sz.q {k : Nat} {x : Rat} (h : Sz k x) : (Q x).sm k:=by
 refine ⟨zbd h.1,?_⟩;simp only [Q];split
 ·exact zyD _
 ·exact zbd h.2
theorem Sz.neg {k : Nat} {x : Rat} (h : Sz k x) : Sz k (-x):=by
 refine ⟨?_,h.2⟩;rw [Rat.neg_num,zAf]; exact h.1
theorem zbZ {a b k m : Nat} (ha : a<256 ^ k) (hb : b<256 ^ m) : a*b<256 ^ (k+m):=by
 rw [zAg];exact Nat.mul_lt_mul'' ha hb
theorem Sz.mul {k m : Nat} {x y : Rat} (h : Sz k x) (h' : Sz m y) : Sz (k+m) (x*y):=by
 rw [Rat.mul_def'];refine Sz.mk' ?_ (zbZ h.2 h'.2) (Nat.mul_ne_zero x.den_nz y.den_nz);rw [zAh]; exact zbZ h.1 h'.1
theorem Sz.add {k m : Nat} {x y : Rat} (h : Sz k x) (h' : Sz m y) : Sz (k+m+1) (x+y):=by
 rw [Rat.add_def'];refine Sz.mk' ?_ (zxw (zbZ h.2 h'.2) (zAa (by decide) (by omega))) (Nat.mul_ne_zero x.den_nz y.den_nz);have h1:=zbZ h.1 h'.2;have h2:=zbZ h'.1 h.2;rw [zyc m k] at h2;have h3 : (x.num*(y.den : Int)+y.num*(x.den : Int)).natAbs<=x.num.natAbs*y.den+y.num.natAbs*x.den:=by
  have:=Int.natAbs_add_le (x.num*(y.den : Int)) (y.num*(x.den : Int));rw [zAh,zAh,zAi,zAi] at this;exact this
 rw [zzD];omega
theorem Sz.sub {k m : Nat} {x y : Rat} (h : Sz k x) (h' : Sz m y) : Sz (k+m+1) (x-y):=by
 rw [zAj]; exact h.add h'.neg
theorem Sz.inv {k : Nat} {x : Rat} (h : Sz k x) : Sz (k+1) x⁻¹:=by
 refine ⟨?_,?_⟩
 ·rw [Rat.num_inv,zAh,zAi];have : x.num.sign.natAbs<=1:=by rcases Int.lt_trichotomy x.num 0 with h | h | h <;> simp [Int.sign_eq_neg_one_of_neg,Int.sign_eq_one_of_pos,h]
  have h2:=zyL x.den this;rw [zzD]; have:=h.2; omega
 ·rw [Rat.den_inv];split
  ·exact Nat.one_lt_pow (by omega) (by decide)
  ·rw [zzD]; have:=h.1; omega
theorem Sz.div {k m : Nat} {x y : Rat} (h : Sz k x) (h' : Sz m y) : Sz (k+(m+1)) (x/y):=by
 rw [Rat.div_def]; exact h.mul h'.inv
end Go.Sx
end
