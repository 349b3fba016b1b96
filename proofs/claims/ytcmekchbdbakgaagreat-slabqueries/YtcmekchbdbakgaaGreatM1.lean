/- A part of the proof of a law. No conditions. -/
import Derived.OrdersIn
import Derived.Still
import Derived.Below
import Derived.RangeFuncIn
import Derived.Laws.Cells
import Derived.Laws.AppendOwn
import Derived.WalkKit
import Derived.Laws.CopyRow
import Derived.ArgAppend
import Derived.RangeFuncOwn
import Derived.Laws.MakeOwn
import Derived.Laws.OwnMore
import Derived.Maps.AppendAt
import Derived.Laws.IdiomStrings
import Derived.KernelRfl
set_option linter.unusedVariables false
set_option linter.unusedSimpArgs false
set_option maxRecDepth 10000
set_option maxHeartbeats 8000000
section
namespace Go.Sx
open Go Go.RowKit
abbrev zxy:=@Sem.run_bind
abbrev zxx:=@Prod.mk.injEq
abbrev zxw:=@Nat.lt_of_lt_of_le
abbrev zxv:=@Array.getElem?_eq_some_iff
abbrev zxt:=@Nat.le_of_eq
abbrev zxs:=@Nat.le_trans
abbrev zxr:=@Nat.le_refl
abbrev zxq:=@Option.some.injEq
abbrev zxp:=@Option.map_some
abbrev zxo:=@Prod.ext
abbrev zxl:=@List.map_congr_left
abbrev zxk:=@List.any_eq_false
abbrev zxj:=@Nat.eq_of_beq_eq_true

def lk {α : Type} (i : Nat) : List (Nat×α)->Option α
 | []=>none
 | (j,x)::r=>bif Nat.beq i j then some x else lk i r

theorem zaB {α : Type} (i j : Nat) (x : α) (r : List (Nat×α)) : lk i ((j,x)::r)=if i=j then some x else lk i r:=by
 rw [lk];by_cases h : i=j
 ·subst h; simp
 ·have : Nat.beq i j=false:=by
   cases hb : Nat.beq i j
   ·rfl
   ·exact absurd (zxj hb) h
  simp [this,h]

theorem zaH {i j : Nat} : Nat.beq i j=false↔i≠j:=by
 constructor
 ·intro h e; subst e; simp at h
 ·intro h
  cases hb : Nat.beq i j
  ·rfl
  ·exact absurd (zxj hb) h
theorem znn {i j : Nat} : Nat.beq i j=true↔i=j:=⟨zxj,fun h=>by subst h; simp⟩

inductive CP where
 | e (x : Value)
 | l (k : Nat)
inductive TP where
 | e (x : Value)
 | p (k off : Nat)
 | s (k off len cap : Nat)
 | w (k : Nat)
inductive AV where
 | v (x : Value)
 | p (k off : Nat)
 | clo (f : FuncId) (caps : List CP)
 | s (k off len cap : Nat)
 | w (k : Nat)
 | tu (xs : List TP)
inductive SV where
 | o (x : AV)
 | a (xs : List AV)

structure Env where
 β : Nat->Option Nat
 ω : Nat->Nat×Nat

def CP.real (E : Env) : CP->Value
 | .e x=>x
 | .l k=>.pointer ((E.β k).map fun b=>⟨b,0,none⟩)
def TP.real (E : Env) : TP->Value
 | .e x=>x
 | .p k off=>.pointer ((E.β k).map fun b=>⟨b,off,none⟩)
 | .s k off n m=>.slice ((E.β k).map fun b=>⟨b,off,none⟩) n m
 | .w k=>.slice ((E.β k).map fun b=>⟨b,0,none⟩) (E.ω k).1 (E.ω k).2
def AV.real (E : Env) : AV->Value
 | .v x=>x
 | .p k off=>.pointer ((E.β k).map fun b=>⟨b,off,none⟩)
 | .clo f caps=>.func (.func f) #[] (caps.map (CP.real E)).toArray
 | .s k off n m=>.slice ((E.β k).map fun b=>⟨b,off,none⟩) n m
 | .w k=>.slice ((E.β k).map fun b=>⟨b,0,none⟩) (E.ω k).1 (E.ω k).2
 | .tu xs=>.tuple (xs.map (TP.real E)).toArray
def SV.real (E : Env) : SV->Value
 | .o x=>x.real E
 | .a xs=>.agg (xs.map (AV.real E)).toArray

def CP.has (k : Nat) : CP->Bool
 | .e _=>false
 | .l j=>Nat.beq j k
def TP.has (k : Nat) : TP->Bool
 | .e _=>false
 | .p j _=>Nat.beq j k
 | .s j _ _ _=>Nat.beq j k
 | .w j=>Nat.beq j k
def TP.av : TP->AV
 | .e x=>.v x
 | .p k off=>.p k off
 | .s k off n m=>.s k off n m
 | .w k=>.w k
theorem TP.real_av (E : Env) (x : TP) : x.av.real E=x.real E:=by cases x <;> rfl
def AV.has (k : Nat) : AV->Bool
 | .v _=>false
 | .p j _=>Nat.beq j k
 | .clo _ caps=>caps.any (CP.has k)
 | .s j _ _ _=>Nat.beq j k
 | .w j=>Nat.beq j k
 | .tu xs=>xs.any (TP.has k)
def SV.has (k : Nat) : SV->Bool
 | .o x=>x.has k
 | .a xs=>xs.any (AV.has k)

def Env.but (E E' : Env) (k : Nat) : Prop:=∀ j,j≠k->E'.β j=E.β j/\E'.ω j=E.ω j

theorem CP.real_but {E E' : Env} {k : Nat} (h : E.but E' k) {x : CP} (hx : x.has k=false) : x.real E'=x.real E:=by
 cases x with
 | e x=>rfl
 | l j=>simp only [CP.has] at hx; simp only [CP.real,(h j (zaH.1 hx)).1]
theorem TP.real_but {E E' : Env} {k : Nat} (h : E.but E' k) {x : TP} (hx : x.has k=false) : x.real E'=x.real E:=by
 cases x with
 | e x=>rfl
 | p j off=>simp only [TP.has] at hx; simp only [TP.real,(h j (zaH.1 hx)).1]
 | s j off n m=>simp only [TP.has] at hx; simp only [TP.real,(h j (zaH.1 hx)).1]
 | w j=>simp only [TP.has] at hx; simp only [TP.real,(h j (zaH.1 hx)).1,(h j (zaH.1 hx)).2]
theorem AV.real_but {E E' : Env} {k : Nat} (h : E.but E' k) {x : AV} (hx : x.has k=false) : x.real E'=x.real E:=by
 cases x with
 | v x=>rfl
 | p j off=>simp only [AV.has] at hx; simp only [AV.real,(h j (zaH.1 hx)).1]
 | clo f caps =>
  simp only [AV.has,zxk] at hx;simp only [AV.real]
  congr 2
  exact zxl fun y hy=>CP.real_but h (by simpa using hx y hy)
 | s j off n m=>simp only [AV.has] at hx; simp only [AV.real,(h j (zaH.1 hx)).1]
 | w j=>simp only [AV.has] at hx; simp only [AV.real,(h j (zaH.1 hx)).1,(h j (zaH.1 hx)).2]
 | tu xs =>
  simp only [AV.has,zxk] at hx;simp only [AV.real]
  congr 2
  exact zxl fun y hy=>TP.real_but h (by simpa using hx y hy)
theorem AV.map_but {E E' : Env} {k : Nat} (h : E.but E' k) {xs : List AV} (hx : xs.any (AV.has k)=false) : xs.map (AV.real E')=xs.map (AV.real E):=by
 rw [zxk] at hx;exact zxl fun y hy=>AV.real_but h (by simpa using hx y hy)
abbrev zxm:=@AV.map_but
theorem SV.real_but {E E' : Env} {k : Nat} (h : E.but E' k) {x : SV} (hx : x.has k=false) : x.real E'=x.real E:=by
 cases x with
 | o x=>exact AV.real_but h hx
 | a xs=>simp only [SV.real,zxm h hx]

abbrev zxn:=@SV.real_but
def SV.cells : SV->List AV
 | .o (.v x)=>x.cells.toList.map AV.v
 | .o y=>[y]
 | .a xs=>xs
theorem SV.cells_real (E : Env) (x : SV) : (x.real E).cells.toList=x.cells.map (AV.real E):=by
 cases x with
 | o x =>
  cases x <;> simp [SV.cells,SV.real,AV.real,Value.cells]
  case v x =>
   have : (AV.real E∘AV.v)=id:=rfl;rw [this,List.map_id]
 | a xs=>simp [SV.cells,SV.real,Value.cells]

def allV : List AV->Option (List Value)
 | []=>some []
 | .v x::r=>match allV r with
  | some l=>some (x::l)
  | none=>none
 | _::_=>none
theorem zbq (E : Env) : ∀ {cs : List AV} {l : List Value},allV cs=some l->cs.map (AV.real E)=l
 | [],l,h=>by simp [allV] at h; subst h; rfl
 | .v x::r,l,h=>by
  simp only [allV] at h
  cases hr : allV r with
  | none=>rw [hr] at h; cases h
  | some l'=>rw [hr] at h; cases h; simp [AV.real,zbq E hr]
 | .p _ _::_,_,h=>by simp [allV] at h
 | .clo _ _::_,_,h=>by simp [allV] at h
 | .s _ _ _ _::_,_,h=>by simp [allV] at h
 | .w _::_,_,h=>by simp [allV] at h
 | .tu _::_,_,h=>by simp [allV] at h
def mkA (cs : List AV) : SV:=match allV cs with
 | some l=>.o (.v (.agg ⟨l⟩))
 | none=>.a cs
theorem zi3 (E : Env) (cs : List AV) : (mkA cs).real E=.agg (cs.map (AV.real E)).toArray:=by
 unfold mkA;split
 ·rename_i l h; simp [SV.real,AV.real,zbq E h]
 ·rfl
theorem zjt {k : Nat} {cs : List AV} (h : cs.any (AV.has k)=false) : (mkA cs).has k=false:=by
 unfold mkA;split
 ·rfl
 ·exact h

inductive ME where
 | box (cs : List AV) (t : TypeId)
 | sym (cs : List Value) (t : TypeId)
 | own (t es n : Nat) (xs : List Value)
def ME.has (k : Nat) : ME->Bool
 | .box cs _=>cs.any (AV.has k)
 | .sym _ _=>false
 | .own _ _ _ _=>false

def MEok (E : Env) (w : World) (k : Nat) : ME->Prop
 | .box cs t=>∃ b,E.β k=some b/\w.heap[b]?=some (.cells (cs.map (AV.real E)).toArray t (0,0))
 | .sym cs t=>∃ b,E.β k=some b/\w.heap[b]?=some (.cells cs.toArray t (0,0))
 | .own t es n xs=>w.ownsRow 0 t es (.slice ((E.β k).map fun b=>⟨b,0,none⟩) (E.ω k).1 (E.ω k).2) n xs

theorem zbH {E : Env} {w : World} {k t es n : Nat} {xs : List Value} (h : w.ownsRow 0 t es (.slice ((E.β k).map fun b=>⟨b,0,none⟩) (E.ω k).1 (E.ω k).2) n xs) :
  xs.length=n*es/\(E.ω k).1=n/\((E.β k=none/\E.ω k=(0,0)/\n=0) \/
   ∃ b cur,E.β k=some b/\w.heap[b]?=some (.cells cur t (0,0))/\n<=(E.ω k).2/\(E.ω k).2<=maxLen/\cur.size=(E.ω k).2*es/\cur.toList.take (n*es)=xs):=by
 obtain ⟨h1,⟨h2,h3⟩ | ⟨g,cap,cur,h2,_,h4,h5,h6,h7,h8⟩⟩:=h
 ·injection h2 with h2 h4 h5
  refine ⟨h1,by rw [h4,h3],.inl ⟨?_,zxo h4 h5,h3⟩⟩
  cases hb : E.β k with
  | none=>rfl
  | some b=>rw [hb] at h2; cases h2
 ·injection h2 with h2 h9 h10
  cases hb : E.β k with
  | none=>rw [hb] at h2; cases h2
  | some b =>
   rw [hb] at h2;simp only [zxp,zxq,Addr.mk.injEq] at h2;obtain ⟨rfl,_⟩:=h2;exact ⟨h1,h9,.inr ⟨b,cur,rfl,h4,by rw [h10]; exact h5,by rw [h10]; exact h6,by rw [h10]; exact h7,h8⟩⟩

theorem zju {w w' : World} {base t es n : Nat} {v : Value} {xs : List Value} (h : w.ownsRow base t es v n xs) (hb : ∀ b,v.ownBlock=some b->w'.heap[b]?=w.heap[b]?) : w'.ownsRow base t es v n xs:=by
 obtain ⟨h1,h2 | ⟨g,cap,cur,rfl,h3,h4,h5⟩⟩:=h
 ·exact ⟨h1,.inl h2⟩
 ·exact ⟨h1,.inr ⟨g,cap,cur,rfl,h3,(hb g rfl).trans h4,h5⟩⟩

theorem MEok.of_block {E : Env} {w w' : World} {k : Nat} {m : ME} (h : MEok E w k m) (hb : ∀ b,E.β k=some b->w'.heap[b]?=w.heap[b]?) : MEok E w' k m:=by
 cases m with
 | box cs t=>obtain ⟨b,h1,h2⟩:=h; exact ⟨b,h1,(hb b h1).trans h2⟩
 | sym cs t=>obtain ⟨b,h1,h2⟩:=h; exact ⟨b,h1,(hb b h1).trans h2⟩
 | own t es n xs =>
  refine zju h fun b hb'=>hb b ?_
  cases he : E.β k with
  | none=>rw [he] at hb'; cases hb'
  | some c=>rw [he] at hb'; exact hb'
theorem MEok.but {E E' : Env} {w : World} {j k : Nat} {m : ME} (h : MEok E w j m) (he : E.but E' k) (hj : j≠k) (hm : m.has k=false) : MEok E' w j m:=by
 have h1:=(he j hj).1;have h2:=(he j hj).2
 cases m with
 | box cs t=>simp only [MEok,h1,zxm he hm]; exact h
 | sym cs t=>simp only [MEok,h1]; exact h
 | own t es n xs=>simp only [MEok,h1,h2]; exact h

structure Res where
 bs : List Nat
 φ : World->Prop
def Res.stable (R : Res) : Prop:=∀ w w' : World,R.φ w->(∀ b∈R.bs,w'.heap[b]?=w.heap[b]?)->R.φ w'

structure SS where
 tm : List (Nat×SV)
 me : List (Nat×ME)
 re : List Res

structure Cx where
 W0 : World
 X : List Nat
 N : Nat
def zrJ (W0 : World) (ds : List Deferred) (w : World) : Prop :=
 ∃ bs : List Nat,ds=bs.map (fun b=>{ target:=.collected b,args:=#[] })/\bs.Nodup/\∀ b∈bs,W0.heap.size<=b/\w.heap[b]?=some (Obj.deferred (some []))
def KD (w w' : World) : Prop:=∀ b : Nat,w.heap[b]?=some (Obj.deferred (some []))->w'.heap[b]?=some (Obj.deferred (some []))
theorem zrJ.keep {W0 : World} {ds : List Deferred} {w w' : World} (h : zrJ W0 ds w) (k : KD w w') : zrJ W0 ds w':=let ⟨bs,h1,h2,h3⟩:=h; ⟨bs,h1,h2,fun b hb=>⟨(h3 b hb).1,k b (h3 b hb).2⟩⟩
structure Bel (B : Nat) (w w' : World) : Prop where
 os : w'.os=w.os
 tape : w'.tape=w.tape
 output : w'.output=w.output
 size : w.heap.size<=w'.heap.size
 block : ∀ k,k<B->w'.heap[k]?=w.heap[k]?
 drawn : w.drawn<=w'.drawn
theorem Bel.b {B : Nat} {w w' : World} (h : Bel B w w') : Below B w w':=⟨h.os,h.tape,h.output,h.size,h.block⟩
theorem Bel.refl (B : Nat) (w : World) : Bel B w w:=⟨rfl,rfl,rfl,zxr _,fun _ _=>rfl,zxr _⟩
theorem Bel.new (w : World) (o : Obj) : Bel w.heap.size w (w.alloc o):=⟨rfl,rfl,rfl,by simp,fun k hk=>Below.heap_alloc _ _ _ hk,zxr _⟩
theorem zhC {p : Program} {w : World} {a : Addr} {u : TypeId} {k : Addr} {v : Value} {at_ : Bool} {r : World×List Addr} (h : w.viewStore p a u k v at_=.ok r) : r.1.drawn=w.drawn:=by
 unfold World.viewStore at h;simp only [bind,Except.bind,pure,Except.pure,throwThe,MonadExceptOf.throw,MonadExcept.throw] at h
 repeat' split at h
 all_goals first | (cases h; done) | (cases h; rfl)
theorem zil {α : Type} : ∀ (s : Ask α) (w : World),w.drawn<=(w.ask s).2.drawn
 | .done a,w=>zxr _
 | .ask what range k,w=>by
  unfold World.ask
  dsimp only
  split
  ·exact zil (k 0) w
  ·exact zxs (Nat.le_succ _) (zil (k _) { w with drawn:=w.drawn+1 })
theorem zo0 (w : World) (c : Sys) : w.drawn<=(w.sys c).2.drawn:=by
 unfold World.sys;have:=zil (Kernel.perform c w.os) w;split
 ·exact zxr _
 ·rename_i h; rw [h] at this; exact this
theorem zlz {α : Type} {P : Program} (s : Sem α) : ∀ {w w' : World} {a : α},s.run P w=.ok a w'->w.drawn<=w'.drawn:=by
 induction s with
 | pure a=>intro w w' b h; cases h; exact zxr _
 | load m a k ih =>
  intro w w' b h;simp only [Sem.run] at h;split at h
  ·exact ih _ h
  ·split at h
   ·exact ih _ h
   ·cases h
 | store m a v k ih =>
  intro w w' b h;have key : (∀ xs,v≠.agg xs)->(∀ xs,v≠.tuple xs)->w.drawn<=w'.drawn:=fun h1 h2=>by
   have h3 : (Sem.store m a v k).run P w=match w.cell? a with
     | some _ => if w.frozen? a then .halt (.unsupported (.unsafePointer "a write to bytes that a string shares")) w else k.run P (w.setCell a v)
     | none=>match w.farStore P a v (m==.atomic) with
      | .ok (w,_)=>k.run P w
      | .error h=>.halt h w:=by
    cases v with
    | agg xs=>exact absurd rfl (h1 xs)
    | tuple xs=>exact absurd rfl (h2 xs)
    | _=>rfl
   rw [h3] at h;split at h
   ·split at h
    ·cases h
    ·exact zxs (zxr (w.setCell a v).drawn) (ih h)
   ·split at h
    ·rename_i w1 l hf;refine zxs (zxt ?_) (ih h);unfold World.farStore at hf;split at hf
     ·split at hf
      ·rename_i r hv
       cases hf
       exact (zhC hv).symm
      ·cases hf
     ·cases hf
    ·cases h
  cases v with
  | agg xs=>cases h
  | tuple xs=>cases h
  | _=>exact key (by intro xs h; cases h) (by intro xs h; cases h)
 | new o k ih=>intro w w' b h; exact zxs (zxr w.drawn) (ih w.heap.size (w:={ w with heap:=w.heap.push o }) h)
 | shape r k ih=>intro w w' b h; exact ih _ h
 | freeze a n k ih =>
  intro w w' b h;refine zxs (zxt ?_) (ih h);unfold World.freeze; split <;> rfl
 | frozen a k ih=>intro w w' b h; exact ih _ h
 | getObj r k ih =>
  intro w w' b h;simp only [Sem.run] at h;split at h
  ·cases h
  ·exact ih _ h
  ·cases h
 | setObj r o k ih =>
  intro w w' b h;simp only [Sem.run] at h;split at h
  ·cases h
  ·exact zxs (zxr w.drawn) (ih (w:={ w with heap:=w.heap.setIfInBounds r o }) h)
  ·cases h
 | choose q k ih =>
  intro w w' b h;simp only [Sem.run] at h;split at h
  ·exact ih _ h
  ·exact zxs (Nat.le_succ _) (ih _ h)
 | sys c k ih=>intro w w' b h; exact zxs (zo0 w c) (ih _ h)
 | program k ih=>intro w w' b h; exact ih _ h
 | mark m k ih=>intro w w' b h; exact ih h
 | halt h=>intro w w' b h; cases h
theorem KD.below {w w' : World} (h : Bel w.heap.size w w') : KD w w':=fun b hb=>(h.block b (zxv.1 hb).1).trans hb
abbrev zxu:=@KD.below
structure Ext (X : List Nat) (W0 w : World) : Prop where
 os : w.os=W0.os
 tape : w.tape=W0.tape
 output : w.output=W0.output
 size : W0.heap.size<=w.heap.size
 block : ∀ k,k<W0.heap.size->k ∉ X->w.heap[k]?=W0.heap[k]?
 drawn : W0.drawn<=w.drawn
theorem Ext.refl (X : List Nat) (w : World) : Ext X w w:=⟨rfl,rfl,rfl,zxr _,fun _ _ _=>rfl,zxr _⟩
theorem Ext.below {W0 w : World} (h : Ext [] W0 w) : Bel W0.heap.size W0 w:=⟨h.os,h.tape,h.output,h.size,fun k hk=>h.block k hk (by simp),h.drawn⟩
theorem Ext.step {X : List Nat} {W0 w w' : World} (h : Ext X W0 w) (k : Bel w.heap.size w w') : Ext X W0 w' :=
 ⟨k.os.trans h.os,k.tape.trans h.tape,k.output.trans h.output,zxs h.size k.size,fun b hb hx=>(k.block b (zxw hb h.size)).trans (h.block b hb hx),zxs h.drawn k.drawn⟩

def zpP : Obj->Bool
 | .deferred _=>false
 | _=>true
def IsC (w : World) (b : Nat) : Prop:=∃ o,w.heap[b]?=some o/\zpP o=true
theorem IsC.cells {w : World} {b : Nat} {cs : Array Value} {t : TypeId} {fr : Nat×Nat} (h : w.heap[b]?=some (Obj.cells cs t fr)) : IsC w b:=⟨_,h,rfl⟩
theorem IsC.lt {w : World} {b : Nat} (h : IsC w b) : b<w.heap.size:=let ⟨_,h,_⟩:=h; (zxv.1 h).1
theorem IsC.keep {w w' : World} {b : Nat} (h : IsC w b) (k : w'.heap[b]?=w.heap[b]?) : IsC w' b:=let ⟨o,h,h2⟩:=h; ⟨o,k.trans h,h2⟩

structure zaV (C : Cx) (E : Env) (me : List (Nat×ME)) (re : List Res) (w : World) : Prop where
 ent : ∀ k m,lk k me=some m->MEok E w k m
 ge : ∀ k m b,lk k me=some m->E.β k=some b->(C.W0.heap.size<=b\/b∈C.X)/\b<w.heap.size
 inj : ∀ k k' m m' b,lk k me=some m->lk k' me=some m'->E.β k=some b->E.β k'=some b->k=k'
 res : ∀ R∈re,R.stable/\R.φ w/\∀ b∈R.bs,IsC w b/\∀ k m,lk k me=some m->E.β k≠some b
 ext : Ext C.X C.W0 w
 rig : ∀ j b m,C.X[j]?=some b->lk (C.N+j) me=some m->E.β (C.N+j)=some b

structure SRE (C : Cx) (E : Env) (st : SS) (a : Act) (w : World) : Prop where
 size : a.tmps.size=C.N
 defers : zrJ C.W0 a.defers w
 tm : ∀ i sv,lk i st.tm=some sv->a.tmps[i]?=some (sv.real E)
 mem : zaV C E st.me st.re w
def SR (C : Cx) (st : SS) (a : Act) (w : World) : Prop:=∃ E,SRE C E st a w

def ev (st : SS) : Operand->Option SV
 | .tmp t=>lk t st.tm
 | .const v=>some (.o (.v v))
 | .global g=>some (.o (.v (.pointer (some ⟨g,0,none⟩))))
 | .func f=>some (.o (.v (.func (.func f) #[] #[])))

theorem zaN {C : Cx} {E : Env} {st : SS} {a : Act} {w : World} (h : SRE C E st a w) {x : Operand} {sv : SV} (hx : ev st x=some sv) : a.eval x=sv.real E:=by
 cases x with
 | tmp t =>
  have:=h.tm t sv hx;simp [Act.eval,this]
 | const v=>simp only [ev,zxq] at hx; subst hx; rfl
 | global g=>simp only [ev,zxq] at hx; subst hx; rfl
 | func f=>simp only [ev,zxq] at hx; subst hx; rfl

inductive LK where
 | b
 | s
 | i (k : IntKind)
 deriving DecidableEq
structure TyE where
 size : Nat
 bytes : Nat
 desc : TypeDesc
 zero : Value
 eqv : Option (List LK):=none
abbrev TT:=List (Nat×TyE)
structure TyOk (P : Program) (t : TypeId) (e : TyE) : Prop where
 info : (P.info? t).map (fun i=>(i.size,i.bytes,i.zero))=some (e.size,e.bytes,some e.zero)
 und : P.underlying t=some e.desc
def zbn : TypeDesc->Bool
 | .struct _=>true
 | .array _ _=>true
 | _=>false

section
variable {P : Program} {t : TypeId} {e : TyE} {w : World}
theorem TyOk.run_info (h : TyOk P t e) : ∃ i,(typeInfo t).run P w=.ok i w/\i.size=e.size/\i.bytes=e.bytes/\i.zero=some e.zero:=by
 have h1:=h.info
 cases hi : P.info? t with
 | none=>rw [hi] at h1; cases h1
 | some i =>
  rw [hi] at h1;simp only [zxp,zxq,zxx] at h1;exact ⟨i,by simp [typeInfo,go_sem,hi],h1.1,h1.2.1,h1.2.2⟩
theorem TyOk.run_size (h : TyOk P t e) : (sizeOf t).run P w=.ok e.size w:=by
 obtain ⟨i,h1,h2,_⟩:=h.run_info (w:=w);unfold sizeOf;rw [zxy,h1];simp [go_sem,h2]
theorem TyOk.run_und (h : TyOk P t e) : (underlying t).run P w=.ok e.desc w:=by
 simp [underlying,go_sem,h.und]
theorem TyOk.run_zero (h : TyOk P t e) : (zeroValue t).run P w=.ok e.zero w:=by
 obtain ⟨i,h1,_,_,h2⟩:=h.run_info (w:=w);unfold zeroValue;rw [zxy,h1];simp [go_sem,h2]
theorem TyOk.run_isAgg (h : TyOk P t e) : (isAgg t).run P w=.ok (zbn e.desc) w:=by
 unfold isAgg;rw [zxy,h.run_und]
 cases he : e.desc <;> simp [go_sem,zbn]
end

def nth {α : Type} : Nat->List α->Option α
 | _,[]=>none
 | 0,x::_=>some x
 | n+1,_::r=>nth n r
theorem zdc {α : Type} : ∀ (n : Nat) (l : List α),nth n l=l[n]?
 | n,[]=>by cases n <;> rfl
 | 0,x::r=>rfl
 | n+1,x::r=>by simp [nth,zdc n r]
def zgO {α : Type} : Nat->List α->List α
 | 0,l=>l
 | _+1,[]=>[]
 | n+1,_::r=>zgO n r
theorem zeH {α : Type} : ∀ (n : Nat) (l : List α),zgO n l=l.drop n
 | 0,l=>rfl
 | n+1,[]=>by simp [zgO]
 | n+1,x::r=>by simp [zgO,zeH n r]
def zfO {α : Type} : Nat->List α->Option (List α)
 | 0,_=>some []
 | _+1,[]=>none
 | n+1,x::r=>match zfO n r with
  | some l=>some (x::l)
  | none=>none
theorem zeV {α : Type} : ∀ {n : Nat} {l l' : List α},zfO n l=some l'->l'=l.take n/\l'.length=n
 | 0,l,l',h=>by simp only [zfO,zxq] at h; subst h; simp
 | n+1,[],l',h=>by simp [zfO] at h
 | n+1,x::r,l',h=>by
  simp only [zfO] at h
  cases hr : zfO n r with
  | none=>rw [hr] at h; cases h
  | some l=>rw [hr] at h; cases h; have:=zeV hr; simp [this.1]; simpa [this.1] using this.2

abbrev DR:=Option (Option Prop×Option ME×SV)
def dv (x : Value) : DR:=some (none,none,.o (.v x))
def dw (x : SV) : DR:=some (none,none,x)
def dwf (x : SV) : DR:=match x with
 | .o (.v y)=>some (none,none,.o (.v y))
 | .o y=>some (none,none,.o y)
 | .a l=>some (none,none,.a l)
theorem znH (x : SV) : dwf x=dw x:=by
 unfold dwf dw;split <;> rfl
def dc (c : Prop) (x : Value) : DR:=some (some c,none,.o (.v x))
def dcw (c : Prop) (x : SV) : DR:=some (some c,none,x)
def SS.has (st : SS) (k : Nat) : Bool:=st.tm.any (fun e=>e.2.has k)||st.me.any (fun e=>Nat.beq e.1 k||e.2.has k)
def dn (st : SS) (d : Nat) (m : ME) (x : SV) : DR:=bif st.has d then none else some (none,some m,x)

def sb (s : ByteArray) (i : Int) : Int:=((s[i.toNat]?.getD 0).toNat : Int)

def zlX (op : BinOp) (k k' : IntKind) (a b : Int) : DR :=
 match op with
 | .shl=>dc (0<=b) (.int k (k.wrap (a*2 ^ min b.toNat k.bits)))
 | .shr=>dc (0<=b) (.int k (a.fdiv (2 ^ min b.toNat k.bits)))
 | op=>bif decide (k=k') then
  (match op with
  | .add=>dv (.int k (k.wrap (a+b)))
  | .sub=>dv (.int k (k.wrap (a-b)))
  | .mul=>dv (.int k (k.wrap (a*b)))
  | .quo=>dc (b≠0) (.int k (k.wrap (a.tdiv b)))
  | .rem=>dc (b≠0) (.int k (a.tmod b))
  | .and=>dv (.int k (k.wrap (BitVec.ofInt k.bits a &&& BitVec.ofInt k.bits b).toNat))
  | .or=>dv (.int k (k.wrap (BitVec.ofInt k.bits a ||| BitVec.ofInt k.bits b).toNat))
  | .xor=>dv (.int k (k.wrap (BitVec.ofInt k.bits a ^^^ BitVec.ofInt k.bits b).toNat))
  | .andNot=>dv (.int k (k.wrap (BitVec.ofInt k.bits a &&& ~~~BitVec.ofInt k.bits b).toNat))
  | .eql=>dv (.bool (a==b))
  | .neq=>dv (.bool (a != b))
  | .lss=>dv (.bool (decide (a<b)))
  | .leq=>dv (.bool (decide (a<=b)))
  | .gtr=>dv (.bool (decide (a>b)))
  | .geq=>dv (.bool (decide (a>=b)))
  | _=>none) else none

def zpB (op : BinOp) (a b : ByteArray) : DR :=
 match op with
 | .eql=>dv (.bool (a.toList==b.toList))
 | .neq=>dv (.bool (!(a.toList==b.toList)))
 | .lss=>dv (.bool (Op.bytesLess a.toList b.toList))
 | .gtr=>dv (.bool (!(Op.bytesLess a.toList b.toList||a.toList==b.toList)))
 | .add=>dc (((a.size+b.size : Nat) : Int)<=IntKind.i64.max) (.string (a++b))
 | _=>none

def eqL : List LK->List Value->List Value->Option Bool
 | [],[],[]=>some true
 | .b::ks,.bool a::r,.bool b::s=>match eqL ks r s with
  | some c=>some ((a==b)&&c)
  | none=>none
 | .s::ks,.string a::r,.string b::s=>match eqL ks r s with
  | some c=>some ((a.toList==b.toList)&&c)
  | none=>none
 | .i k::ks,.int k1 a::r,.int k2 b::s=>match eqL ks r s with
  | some c=>bif decide (k=k1)&&decide (k=k2) then some ((a==b)&&c) else none
  | none=>none
 | _,_,_=>none

def zcy (P : Program) (t : TypeId) (ks : List LK) : Prop:=∀ (xs ys : Array Value) (r : Bool) (x y : Operand) (w : World),eqL ks xs.toList ys.toList=some r ->
 (do eqGuard .eql t x y (.agg xs) (.agg ys); binOp .eql t (.agg xs) (.agg ys) : Sem Value).run P w=.ok (.bool r) w /\
 (do eqGuard .neq t x y (.agg xs) (.agg ys); binOp .neq t (.agg xs) (.agg ys) : Sem Value).run P w=.ok (.bool (!r)) w

def zeB (st : SS) : List Operand->Option (List CP)
 | []=>some []
 | x::r=>match ev st x,zeB st r with
  | some (.o (.p k off)),some l=>bif Nat.beq off 0 then some (.l k::l) else none
  | some (.o (.v y)),some l=>some (.e y::l)
  | _,_=>none

def ze0 (st : SS) (k : Nat) : Bool:=match lk k st.me with
 | some (.box _ _)=>true
 | some (.sym _ _)=>true
 | _=>false

def ownN (st : SS) (k : Nat) : Option Nat:=match lk k st.me with
 | some (.own _ _ n _)=>some n
 | _=>none

def fld (d : TypeDesc) (f : Nat) : Option Field:=match d with
 | .struct fs=>nth f fs.toList
 | _=>none

def putN {α : Type} : Nat->List α->List α->List α
 | _,[],l=>l
 | 0,x::xs,_::r=>x::putN 0 xs r
 | 0,_::_,[]=>[]
 | n+1,xs@(_::_),y::r=>y::putN n xs r
 | _+1,_::_,[]=>[]

def zf8 (st : SS) (zjy : Nat->Option (Nat×Nat)) : List (Nat×Operand)->List AV->Option (List AV)
 | [],cs=>some cs
 | (i,x)::r,cs=>match zjy i,ev st x with
  | some (off,size),some sv=>bif Nat.beq sv.cells.length size&&Nat.ble (off+size) cs.length then zf8 st zjy r (putN off sv.cells cs) else none
  | _,_=>none

def zjy (T : TT) (d : TypeDesc) (i : Nat) : Option (Nat×Nat) :=
 match d with
 | .struct fs=>match nth i fs.toList with
  | some f=>match lk f.type T with
   | some e=>some (f.offset,e.size)
   | none=>none
  | none=>none
 | .array _ el=>match lk el T with
  | some e=>some (i*e.size,e.size)
  | none=>none
 | _=>none

def allT (T : TT) : TypeDesc->Bool
 | .struct fs=>fs.toList.all fun f=>(lk f.type T).isSome
 | .array _ el=>(lk el T).isSome
 | _=>false

def repl {α : Type} : Nat->List α->List α
 | 0,_=>[]
 | n+1,l=>l++repl n l

def mxI (a b : Int) : Int:=if b>a then b else a
def zsB (st : SS) (b : Builtin) (ts : List TypeId) (T : TT) (args : List (Option SV)) : DR :=
 match b,ts,args with
 | .len,t::_,[some (.o x)]=>match lk t T with
  | some e=>match e.desc,x with
   | .string,.v (.string s)=>dv (.int .i64 s.size)
   | .array n _,_=>dv (.int .i64 n)
   | .slice _,.v (.slice _ n _)=>dv (.int .i64 n)
   | .slice _,.s _ _ n _=>dv (.int .i64 n)
   | .slice _,.w k=>match lk k st.me with
    | some (.own _ _ n _)=>dv (.int .i64 n)
    | _=>none
   | _,_=>none
  | none=>none
 | .max,_,[some (.o (.v (.int k a))),some (.o (.v (.int _ b)))]=>dv (.int k (if b>a then b else a))
 | .min,_,[some (.o (.v (.int k a))),some (.o (.v (.int _ b)))]=>dv (.int k (if b<a then b else a))
 | .max,_,[some (.o (.v (.int k a))),some (.o (.v (.int _ b))),some (.o (.v (.int _ c))),some (.o (.v (.int _ d)))]=>dv (.int k (mxI (mxI (mxI a b) c) d))
 | _,_,_=>none

def toI : Option SV->Option Int
 | some (.o (.v (.int _ n)))=>some n
 | _=>none

def dop (T : TT) (st : SS) (d : Nat) (op : Op) : DR :=
 match op with
 | .move x=>match ev st x with
  | some sv=>dw sv
  | none=>none
 | .assign x=>match ev st x with
  | some sv=>dw sv
  | none=>none
 | .pick c a b=>match ev st c with
  | some (.o (.v (.bool bb)))=>match bb with
   | true=>match ev st a with
    | some sv=>dw sv
    | none=>none
   | false=>match ev st b with
    | some sv=>dw sv
    | none=>none
  | _=>none
 | .alloc t=>match lk t T with
  | some e=>dn st d (.box (e.zero.cells.toList.map AV.v) t) (.o (.p d 0))
  | none=>none
 | .box t x=>match ev st x with
  | some sv=>dn st d (.box sv.cells t) (.o (.p d 0))
  | none=>none
 | .build t parts=>match lk t T with
  | some e=>bif allT T e.desc then (match zf8 st (zjy T e.desc) parts.toList (e.zero.cells.toList.map AV.v) with
   | some cs=>dwf (mkA cs)
   | none=>none) else none
  | none=>none
 | .buildSlice t n parts=>match lk t T with
  | some e=>match e.desc with
   | .slice el=>match lk el T with
    | some ee=>bif Nat.ble (n*ee.size) 1000&&Nat.beq ee.zero.cells.toList.length ee.size then
     (match zf8 st (fun i=>some (i*ee.size,ee.size)) parts.toList (repl n (ee.zero.cells.toList.map AV.v)) with
     | some cs=>dn st d (.box cs el) (.o (.s d 0 n n))
     | none=>none) else none
    | none=>none
   | _=>none
  | none=>none
 | .load t x=>match lk t T,ev st x with
  | some e,some (.o (.p k off))=>match lk k st.me with
   | some (.box cs _)=>match zfO e.size (zgO off cs) with
    | some l=>bif zbn e.desc then dwf (mkA l) else (match l with
     | [y]=>dw (.o y)
     | _=>none)
    | none=>none
   | _=>none
  | _,_=>none
 | .binOp op t x y _=>match ev st x,ev st y with
  | some (.o (.v (.int k a))),some (.o (.v (.int k' b)))=>zlX op k k' a b
  | some (.o (.v (.string a))),some (.o (.v (.string b)))=>zpB op a b
  | some (.o (.v (.bool a))),some (.o (.v (.bool b)))=>match lk t T,op with
   | some e,.eql=>match e.desc with
    | .bool=>dv (.bool (a==b))
    | _=>none
   | some e,.neq=>match e.desc with
    | .bool=>dv (.bool (!(a==b)))
    | _=>none
   | _,_=>none
  | some (.o (.v (.agg xs))),some (.o (.v (.agg ys)))=>match lk t T with
   | some e=>match e.eqv with
    | some ks=>match op,eqL ks xs.toList ys.toList with
     | .eql,some r=>dv (.bool r)
     | .neq,some r=>dv (.bool (!r))
     | _,_=>none
    | none=>none
   | none=>none
  | some (.o (.v (.slice A _ _))),some (.o (.v (.slice none _ _)))=>match lk t T,op with
   | some e,.eql=>match e.desc with
    | .slice _=>dv (.bool A.isNone)
    | _=>none
   | some e,.neq=>match e.desc with
    | .slice _=>dv (.bool (!A.isNone))
    | _=>none
   | _,_=>none
  | _,_=>none
 | .unOp op _ x=>match op,ev st x with
  | .not,some (.o (.v (.bool b)))=>dv (.bool (!b))
  | .neg,some (.o (.v (.int k n)))=>dv (.int k (k.wrap (0-n)))
  | .xor,some (.o (.v (.int k n)))=>dv (.int k (k.wrap (BitVec.ofInt k.bits (if k.signed then -1 else k.max) ^^^ BitVec.ofInt k.bits n).toNat))
  | _,_=>none
 | .convert s t x=>match lk s T,lk t T,ev st x with
  | some _,some e,some (.o (.v (.int _ n)))=>match e.desc with
   | .int k=>dv (.int k (k.wrap n))
   | _=>none
  | some es,some e,some (.o (.v (.string b)))=>match es.desc,e.desc with
   | .string,.string=>dv (.string b)
   | _,_=>none
  | _,_,_=>none
 | .makeFunc (.func f) first captured=>match first.toList,zeB st captured.toList with
  | [],some l=>dw (.o (.clo f l))
  | _,_=>none
 | .fieldAddr s x f=>match lk s T,ev st x with
  | some e,some (.o y)=>match fld e.desc f with
   | some fd=>match lk fd.type T with
    | some fe=>bif Nat.beq fe.size 0 then none else (match y with
     | .p k off=>bif ze0 st k then dw (.o (.p k (off+fd.offset))) else (match ownN st k with
      | some n=>dcw (0<n) (.o (.p k (off+fd.offset)))
      | none=>none)
     | .v (.pointer (some ⟨b,o,none⟩))=>dv (.pointer (some ⟨b,o+fd.offset,none⟩))
     | _=>none)
    | none=>none
   | none=>none
  | _,_=>none
 | .field s x f=>match lk s T,ev st x with
  | some e,some sv=>match fld e.desc f with
   | some fd=>match lk fd.type T with
    | some fe=>match sv with
     | .o (.v (.agg cs))=>match zfO fe.size (zgO fd.offset cs.toList) with
      | some l=>bif zbn fe.desc then dv (.agg ⟨l⟩) else (match l with
       | [y]=>dv y
       | _=>none)
      | none=>none
     | _=>none
    | none=>none
   | none=>none
  | _,_=>none
 | .indexAddr t x i=>match lk t T,ev st x,toI (ev st i) with
  | some e,some (.o y),some j=>match e.desc with
   | .array n el=>match lk el T,y with
    | some ee,.p k off=>bif ze0 st k then dcw (0<=j/\j<n) (.o (.p k (off+j.toNat*ee.size))) else none
    | _,_=>none
   | .slice el=>match lk el T,y with
    | some ee,.s k off n _=>bif ze0 st k then dcw (0<=j/\j<n) (.o (.p k (off+j.toNat*ee.size))) else none
    | some ee,.v (.slice A n _)=>dc (0<=j/\j<n/\A.isSome=true) (.pointer (A.map fun a=>a.add (j.toNat*ee.size)))
    | some ee,.w k=>match lk k st.me with
     | some (.own _ _ n _)=>dcw (0<=j/\j<n) (.o (.p k (j.toNat*ee.size)))
     | _=>none
    | _,_=>none
   | _=>none
  | _,_,_=>none
 | .index t x i=>match lk t T,ev st x,toI (ev st i) with
  | some e,some (.o (.v y)),some j=>match e.desc,y with
   | .string,.string s=>dc (0<=j/\j<s.size) (.int .u8 (sb s j))
   | .array n el,.agg cs=>match lk el T with
    | some ee=>match zfO ee.size (zgO (j.toNat*ee.size) cs.toList) with
     | some l=>bif zbn ee.desc then dc (0<=j/\j<n) (.agg ⟨l⟩) else (match l with
      | [z]=>dc (0<=j/\j<n) z
      | _=>none)
     | none=>none
    | none=>none
   | _,_=>none
  | _,_,_=>none
 | .slice t x lo hi mx=>match lk t T,ev st x,mx with
  | some e,some (.o (.v (.string s))),none=>match e.desc with
   | .string=>match (match lo with | some l=>toI (ev st l) | none=>some 0),(match hi with | some h=>toI (ev st h) | none=>some (s.size : Int)) with
    | some l,some h=>dc (0<=l/\l<=h/\h<=s.size) (.string (s.extract l.toNat h.toNat))
    | _,_=>none
   | _=>none
  | some e,some (.o (.v (.slice A n c))),none=>match e.desc with
   | .slice el=>match lk el T,(match lo with | some l=>toI (ev st l) | none=>some 0),(match hi with | some h=>toI (ev st h) | none=>some (n : Int)) with
    | some ee,some l,some h=>dc (0<=l/\l<=h/\h<=c) (.slice (if c=l.toNat then A else A.map (·.add (l.toNat*ee.size))) (h.toNat-l.toNat) (c-l.toNat))
    | _,_,_=>none
   | _=>none
  | some e,some (.o (.v (.slice A n c))),some mm=>match e.desc,lo,hi with
   | .slice el,none,some hh=>match lk el T,toI (ev st hh),toI (ev st mm) with
    | some _,some h,some m=>dc (0<=h/\h<=m/\m<=c) (.slice A h.toNat m.toNat)
    | _,_,_=>none
   | _,_,_=>none
  | _,_,_=>none
 | .extract x i=>match ev st x with
  | some (.o y)=>match y with
   | .tu vs=>match nth i vs with
    | some v=>dw (.o v.av)
    | none=>none
   | .v z=>match z with
    | .tuple vs=>match nth i vs.toList with
     | some v=>dv v
     | none=>none
    | _=>none
   | _=>none
  | _=>none
 | .call ⟨.builtin b,args,ts⟩=>zsB st b ts.toList T (args.toList.map (ev st))
 | _=>none

abbrev zxY:=@decide_eq_true_eq
abbrev zxX:=@Array.length_toList
abbrev zxW:=@Nat.le_of_ble_eq_true
abbrev zxV:=@Bool.and_eq_true
abbrev zxU:=@Bool.false_or
abbrev zxT:=@List.map_cons
abbrev zxS:=@Nat.add_assoc
abbrev zxR:=@List.length_cons
abbrev zxQ:=@List.mem_of_mem_drop
abbrev zxP:=@List.mem_of_mem_take
abbrev zxO:=@Bool.or_false
abbrev zxN:=@List.any_cons
abbrev zxM:=@Nat.beq_refl
abbrev zxL:=@Nat.add_zero
abbrev zxK:=@Addr.add_lit
abbrev zxJ:=@if_pos
abbrev zxI:=@if_neg
abbrev zxG:=@Bool.not_eq_true
abbrev zxF:=@Bool.or_eq_true
abbrev zxD:=@Bool.or_eq_false_iff
abbrev zxB:=@List.mem_cons_of_mem
abbrev zxA:=@List.mem_cons_self

def zaY (P : Program) (T : TT) : Prop:=∀ t e,lk t T=some e->TyOk P t e/\(∀ ks,e.eqv=some ks->zcy P t ks)

def Env.set (E : Env) (d b : Nat) : Env:={ β:=fun j=>if j=d then some b else E.β j,ω:=E.ω }
theorem Env.set_but (E : Env) (d b : Nat) : E.but (E.set d b) d:=fun j h=>by simp [Env.set,h]
theorem Env.set_self (E : Env) (d b : Nat) : (E.set d b).β d=some b:=by simp [Env.set]

abbrev zxz:=@Env.set_self
theorem ze5 {α : Type} : ∀ {i : Nat} {x : α} {l : List (Nat×α)},lk i l=some x->(i,x)∈l
 | i,x,[],h=>by simp [lk] at h
 | i,x,(j,y)::r,h=>by
  rw [zaB] at h;split at h
  ·rename_i e; subst e; cases h; exact zxA
  ·exact zxB _ (ze5 h)

theorem SS.has_tm {st : SS} {k i : Nat} {sv : SV} (h : st.has k=false) (hi : lk i st.tm=some sv) : sv.has k=false:=by
 simp only [SS.has,zxD,zxk] at h;simpa using h.1 _ (ze5 hi)
abbrev zxC:=@SS.has_tm
theorem SS.has_me {st : SS} {k i : Nat} {m : ME} (h : st.has k=false) (hi : lk i st.me=some m) : i≠k/\m.has k=false:=by
 simp only [SS.has,zxD,zxk] at h;have:=h.2 _ (ze5 hi);simp only [zxF,not_or,zxG] at this;exact ⟨zaH.1 this.1,this.2⟩
abbrev zxE:=@SS.has_me
theorem zcC {st : SS} {k : Nat} {x : Operand} {sv : SV} (h : st.has k=false) (hx : ev st x=some sv) : sv.has k=false:=by
 cases x with
 | tmp t=>exact zxC h hx
 | const v=>simp only [ev,zxq] at hx; subst hx; rfl
 | global g=>simp only [ev,zxq] at hx; subst hx; rfl
 | func f=>simp only [ev,zxq] at hx; subst hx; rfl

theorem SV.cells_has {k : Nat} {sv : SV} (h : sv.has k=false) : sv.cells.any (AV.has k)=false:=by
 cases sv with
 | o x =>
  cases x <;> simp_all [SV.cells,SV.has,AV.has]
 | a xs=>exact h

abbrev zxH:=@SV.cells_has
def Does (P : Program) (E : Env) (st : SS) (d : Nat) (a : Act) (w : World) (o : Oper) (m : Option ME) (sv : SV) : Prop :=
 match m with
 | none=>(execOp a.eval o).run P w=.ok (.value (sv.real E)) w/\∀ k,st.has k=false->sv.has k=false
 | some m=>∃ cs t,m=.box cs t/\st.has d=false/\(∀ k,st.has k=false->cs.any (AV.has k)=false) /\
   (execOp a.eval o).run P w=.ok (.value (sv.real (E.set d w.heap.size))) (w.alloc (.cells (cs.map (AV.real E)).toArray t))/\(∀ k,k≠d->sv.has k=false)

section
variable {P : Program} {T : TT} {C : Cx} {E : Env} {st : SS} {a : Act} {w : World}

theorem zaQ {d : Nat} {o : Oper} {x : Value} (h : (execOp a.eval o).run P w=.ok (.value x) w) : Does P E st d a w o none (.o (.v x)):=⟨h,fun _ _=>rfl⟩

theorem zsE {op : BinOp} {k k' : IntKind} {x y : Int} {c : Option Prop} {m : Option ME} {sv : SV} (h : zlX op k k' x y=some (c,m,sv)) (hc : ∀ p,c=some p->p) :
  m=none/\∃ v,sv=.o (.v v)/\∀ t,(binOp op t (.int k x) (.int k' y)).run P w=.ok v w:=by
 cases op
 case shl =>
  cases h
  have hb:=hc _ rfl;refine ⟨rfl,_,rfl,fun t=>?_⟩;simp only [binOp,Op.shift];rw [zxI (by omega)]; rfl
 case shr =>
  cases h
  have hb:=hc _ rfl;refine ⟨rfl,_,rfl,fun t=>?_⟩;simp only [binOp,Op.shift];rw [zxI (by omega)]; rfl
 all_goals
  by_cases e : k=k'
  case neg=>simp [zlX,e] at h
  subst e;simp only [zlX,dv,dc,decide_true,cond_true,zxq,zxx] at h;obtain ⟨rfl,rfl,rfl⟩:=h
  first
  | (have hb:=hc _ rfl
     refine ⟨rfl,_,rfl,fun t=>?_⟩
     simp only [binOp,Op.intDiv,ne_eq,not_true_eq_false,if_false]
     rw [zxI hb]; rfl)
  | (refine ⟨rfl,_,rfl,fun t=>?_⟩
     simp [binOp,Op.intArith,Op.intBits,Op.intCmp,go_sem])

theorem zro {op : BinOp} {x y : ByteArray} {c : Option Prop} {m : Option ME} {sv : SV} (h : zpB op x y=some (c,m,sv)) (hc : ∀ p,c=some p->p) :
  m=none/\∃ v,sv=.o (.v v)/\∀ t,(binOp op t (.string x) (.string y)).run P w=.ok v w:=by
 cases op <;> simp only [zpB,dv,dc] at h <;> cases h
 case add =>
  have hb:=hc _ rfl;refine ⟨rfl,_,rfl,fun t=>?_⟩;simp only [binOp,Op.stringOp];rw [zxI (by omega)]; rfl
 all_goals
  refine ⟨rfl,_,rfl,fun t=>?_⟩;simp [binOp,Op.stringOp,go_sem]

theorem zhF (op : BinOp) (t : TypeId) (x y : Operand) (k : IntKind) (n : Int) (v : Value) : eqGuard op t x y (.int k n) v=pure ():=by cases op <;> rfl
theorem zhE (op : BinOp) (t : TypeId) (x y : Operand) (s : ByteArray) (v : Value) : eqGuard op t x y (.string s) v=pure ():=by cases op <;> rfl
theorem zd7 (op : BinOp) (t : TypeId) (x y : Operand) (s : Bool) (v : Value) : eqGuard op t x y (.bool s) v=pure ():=by cases op <;> rfl

theorem zcg {b : Nat} {cs : Array Value} {t : TypeId} {fr : Nat×Nat} {w : World} (h : w.heap[b]?=some (.cells cs t fr)) (off : Nat) : w.cell? ⟨b,off,none⟩=cs[off]?:=by
 simp [World.cell?,h]

theorem zfe {t : TypeId} {e : TyE} (ht : TyOk P t e) {b off : Nat} {l : List Value} (hl : l.length=e.size)
  (hc : ∀ j v,l[j]?=some v->w.cell? ⟨b,off+j,none⟩=some v) :
  (loadVar t ⟨b,off,none⟩).run P w=if zbn e.desc then .ok (.agg l.toArray) w else match l with | [y]=>.ok y w | _=>(loadVar t ⟨b,off,none⟩).run P w:=by
 by_cases hg : zbn e.desc=true
 ·rw [zxJ hg];unfold loadVar;rw [zxy,ht.run_isAgg,hg];simp only [Result.andThen];simp only [if_true];rw [zxy,ht.run_size];simp only [Result.andThen];rw [<-hl,zxy];rw [run_loadCells_list _ _ l (fun j v hj=>by rw [zxK]; exact hc j v hj)];rfl
 ·rw [zxI hg];split
  ·rename_i y;unfold loadVar;rw [zxy,ht.run_isAgg];simp only [Result.andThen];rw [zxI hg];have:=hc 0 y rfl;simp only [zxL] at this;simp [load,Sem.run,this]
  ·rfl


theorem zhM (h : SRE C E st a w) : ∀ {l : List Operand} {cs : List CP},zeB st l=some cs->l.map a.eval=cs.map (CP.real E)/\∀ k,st.has k=false->cs.any (CP.has k)=false
 | [],cs,hl=>by simp only [zeB,zxq] at hl; subst hl; simp
 | x::r,cs,hl=>by
  simp only [zeB] at hl;split at hl
  ·rename_i k off l hx hr;have ih:=zhM h hr;by_cases ho : off=0
   ·subst ho;simp only [zxM,cond_true,zxq] at hl;subst hl;refine ⟨by simp [ih.1,zaN h hx,SV.real,AV.real,CP.real],fun j hj=>?_⟩;have:=zcC hj hx;simp only [zxN,ih.2 j hj,zxO];exact this
   ·rw [zaH.2 ho] at hl; cases hl
  ·rename_i y l hx hr;have ih:=zhM h hr
   cases hl
   exact ⟨by simp [ih.1,zaN h hx,SV.real,AV.real,CP.real],fun j hj=>by simp [ih.2 j hj,CP.has]⟩
  ·cases hl

theorem zsR {d : TypeDesc} {f : Nat} {fd : Field} (h : fld d f=some fd) : ∃ fs,d=.struct fs/\fs[f]?=some fd:=by
 cases d <;> simp only [fld] at h <;> try (cases h; done)
 rename_i fs;refine ⟨fs,rfl,?_⟩;rw [zdc] at h;simpa using h

theorem zsH {α : Type} {p : α->Bool} {l : List α} (n : Nat) (h : l.any p=false) : (l.take n).any p=false:=by
 rw [zxk] at *;exact fun x hx=>h x (zxP hx)
theorem zsA {α : Type} {p : α->Bool} {l : List α} (n : Nat) (h : l.any p=false) : (l.drop n).any p=false:=by
 rw [zxk] at *;exact fun x hx=>h x (zxQ hx)

theorem zqN : ∀ (xs : List Value) (l : List Value) (off : Nat),off+xs.length<=l.length ->
  ((xs.zipIdx).foldl (fun (cs : Array Value) (p : Value×Nat)=>cs.setIfInBounds (off+p.2) p.1) l.toArray)=(putN off xs l).toArray:=by
 have key : ∀ (xs : List Value) (l : List Value) (off i : Nat),off+i+xs.length<=l.length ->
   ((xs.zipIdx i).foldl (fun (cs : Array Value) (p : Value×Nat)=>cs.setIfInBounds (off+p.2) p.1) l.toArray)=(putN (off+i) xs l).toArray:=by
  intro xs
  induction xs with
  | nil=>intro l off i _; cases l <;> cases h : off+i <;> simp [putN]
  | cons x xs ih =>
   intro l off i h;simp only [zxR] at h;simp only [List.zipIdx_cons,List.foldl_cons,List.setIfInBounds_toArray];rw [ih _ _ _ (by simp; omega)]
   congr 1
   have : ∀ (n : Nat) (x : Value) (xs l : List Value),n<l.length->putN (n+1) xs (l.set n x)=putN n (x::xs) l:=by
    intro n
    induction n with
    | zero =>
     intro x xs l hl
     cases l with
     | nil=>simp at hl
     | cons y l=>cases xs <;> simp [putN]
    | succ n ihn =>
     intro x xs l hl
     cases l with
     | nil=>simp at hl
     | cons y l =>
      cases xs with
      | nil=>simp only [List.set_cons_succ,putN]; rw [<-ihn x [] l (by simpa using hl)]; cases (l.set n x) <;> simp [putN]
      | cons z xs=>simp only [List.set_cons_succ,putN]; rw [<-ihn x (z::xs) l (by simpa using hl)]
   rw [<-zxS];exact this (off+i) x xs l (by omega)
 intro xs l off h;exact key xs l off 0 (by omega)

theorem zjW {α β : Type} (f : α->β) : ∀ (off : Nat) (xs l : List α),(putN off xs l).map f=putN off (xs.map f) (l.map f)
 | off,[],l=>by cases off <;> cases l <;> rfl
 | 0,x::xs,[]=>rfl
 | 0,x::xs,y::l=>by simp [putN,zjW f 0 xs l]
 | n+1,x::xs,[]=>rfl
 | n+1,x::xs,y::l=>by simp only [putN,zxT,zjW f n (x::xs) l]
theorem zg9 {α : Type} {p : α->Bool} : ∀ (off : Nat) (xs l : List α),xs.any p=false->l.any p=false->(putN off xs l).any p=false
 | off,[],l,_,h=>by cases off <;> cases l <;> exact h
 | 0,x::xs,[],_,_=>rfl
 | 0,x::xs,y::l,h1,h2=>by
  simp only [zxN,zxD] at h1 h2;simp [putN,h1.1,zg9 0 xs l h1.2 h2.2]
 | n+1,x::xs,[],_,_=>rfl
 | n+1,x::xs,y::l,h1,h2=>by
  have h3:=h2;simp only [zxN,zxD] at h2;simp only [putN,zxN,h2.1,zxU];exact zg9 n (x::xs) l h1 h2.2

theorem zha (h : SRE C E st a w) {pl pl' : Nat->Option (Nat×Nat)} (hpl : ∀ i x,pl i=some x->pl' i=some x) : ∀ {ps : List (Nat×Operand)} {cs cs' : List AV},zf8 st pl ps cs=some cs' ->
  Instr.fill pl' (cs.map (AV.real E)).toArray (ps.map fun p=>(p.1,a.eval p.2))=some (cs'.map (AV.real E)).toArray /\
  (∀ k,st.has k=false->cs.any (AV.has k)=false->cs'.any (AV.has k)=false)
 | [],cs,cs',hf=>by simp only [zf8,zxq] at hf; subst hf; simp [Instr.fill]
 | (i,x)::r,cs,cs',hf=>by
  simp only [zf8] at hf;split at hf
  ·rename_i off size sv hp hx;by_cases hc : (Nat.beq sv.cells.length size&&Nat.ble (off+size) cs.length)=true
   ·rw [hc] at hf;simp only [cond_true] at hf;simp only [zxV] at hc;have h1:=zxj hc.1;have h2:=zxW hc.2;have ih:=zha h hpl hf;have hcell:=SV.cells_real E sv;have hlen : (sv.real E).cells.size=size:=by rw [<-zxX,hcell]; simp [h1]
    refine ⟨?_,fun k hk hcs=>ih.2 k hk (zg9 _ _ _ (zxH (zcC hk hx)) hcs)⟩;simp only [zxT,Instr.fill,hpl _ _ hp,zaN h hx];have hno : ¬((sv.real E).cells.size≠size\/off+(sv.real E).cells.size>(List.map (AV.real E) cs).toArray.size):=by simp; omega
    simp only [zxF,zxY];rw [zxI (by simpa using hno)];have:=zqN (sv.real E).cells.toList (cs.map (AV.real E)) off (by simp; omega);have e2 : (Array.foldl (fun cs x=>cs.setIfInBounds (off+x.2) x.1) (List.map (AV.real E) cs).toArray (sv.real E).cells.zipIdx)=(putN off (sv.real E).cells.toList (cs.map (AV.real E))).toArray:=by
     rw [<-this,<-Array.foldl_toList,Array.toList_zipIdx]
    rw [e2,hcell,<-zjW];exact ih.1
   ·rw [zxG] at hc;rw [hc] at hf; cases hf
  ·cases hf

end
abbrev zyg:=@List.getElem?_append_right
abbrev zyf:=@Nat.eq_zero_or_pos
abbrev zye:=@Nat.mod_eq_of_lt
abbrev zyd:=@List.getElem?_append_left
abbrev zyc:=@Nat.add_comm
abbrev zyb:=@Nat.succ_mul
abbrev zya:=@List.any_append
abbrev zx8:=@List.getElem?_drop
abbrev zx7:=@List.getElem?_take
abbrev zx6:=@Array.toList_map
abbrev zx5:=@Option.isSome_iff_exists
abbrev zx4:=@List.getElem?_map
abbrev zx3:=@List.getElem?_toArray
abbrev zx2:=@List.all_eq_true
abbrev zx1:=@List.mem_map
abbrev zx0:=@List.map_map
abbrev zxZ:=@Sem.run_pure

section
variable {P : Program} {T : TT} {C : Cx} {E : Env} {st : SS} {a : Act} {w : World}

theorem zhz {d : Nat} {m0 : ME} {x : SV} {c : Option Prop} {m : Option ME} {sv : SV} (h : dn st d m0 x=some (c,m,sv)) : st.has d=false/\m=some m0/\sv=x:=by
 unfold dn at h
 cases hs : st.has d <;> rw [hs] at h
 ·simp only [cond_false,zxq,zxx] at h;exact ⟨rfl,h.2.1.symm,h.2.2.symm⟩
 ·cases h

theorem zh3 (hT : zaY P T) : ∀ (fs : List Field),(∀ f∈fs,∃ e,lk f.type T=some e) ->
  (fs.mapM (m:=Sem) fun f=>do pure (f.offset,<-sizeOf f.type)).run P w=.ok (fs.map fun f=>(f.offset,P.cellsOf f.type)) w
 | [],_=>rfl
 | f::fs,h=>by
  obtain ⟨e,he⟩:=h f (zxA);have ht:=(hT _ _ he).1;have hsz : e.size=P.cellsOf f.type:=by
   have:=ht.info;unfold Program.cellsOf
   cases hi : P.info? f.type with
   | none=>rw [hi] at this; cases this
   | some i=>rw [hi] at this; simp only [zxp,zxq,zxx] at this; simp [this.1]
  rw [List.mapM_cons,zxy,zxy,ht.run_size];simp only [Result.andThen,zxZ];rw [zxy,zh3 hT fs (fun g hg=>h g (zxB _ hg))];simp only [Result.andThen,zxZ,zxT,hsz]


theorem zov {t : TypeId} {e : TyE} (ht : TyOk P t e) : P.cellsOf t=e.size:=by
 have:=ht.info;unfold Program.cellsOf
 cases hi : P.info? t with
 | none=>rw [hi] at this; cases this
 | some i=>rw [hi] at this; simp only [zxp,zxq,zxx] at this; simp [this.1]

theorem zgd (e : TyE) (E : Env) : (e.zero.cells.toList.map AV.v).map (AV.real E)=e.zero.cells.toList:=by
 rw [zx0];have : (AV.real E∘AV.v)=id:=rfl;rw [this,List.map_id]
theorem zlJ (k : Nat) (l : List Value) : (l.map AV.v).any (AV.has k)=false:=by
 rw [zxk]; intro x hx; obtain ⟨y,_,rfl⟩:=zx1.1 hx; simp [AV.has]

theorem zk4 (hT : zaY P T) (h : SRE C E st a w) {t : TypeId} {e : TyE} (he : lk t T=some e) (hall : allT T e.desc=true) {ps : Array (Nat×Operand)} {cs : List AV}
  (hf : zf8 st (zjy T e.desc) ps.toList (e.zero.cells.toList.map AV.v)=some cs) :
  (Instr.build t (ps.map fun p=>(p.1,a.eval p.2))).run P w=.ok (.agg (cs.map (AV.real E)).toArray) w/\∀ k,st.has k=false->cs.any (AV.has k)=false:=by
 have ht:=(hT _ _ he).1;unfold Instr.build;rw [zxy,ht.run_zero];simp only [Result.andThen];rw [zxy,ht.run_und];simp only [Result.andThen];have hz : e.zero.cells=((e.zero.cells.toList.map AV.v).map (AV.real E)).toArray:=by rw [zgd]
 cases hd : e.desc with
 | struct fs =>
  rw [hd] at hf hall;simp only [allT,zx2] at hall;have hpl : ∀ i x,zjy T (.struct fs) i=some x->(fs.toList.map fun f=>(f.offset,P.cellsOf f.type)).toArray[i]?=some x:=by
   intro i x hx;simp only [zjy] at hx;split at hx
   ·rename_i f hn;rw [zdc] at hn;split at hx
    ·rename_i ee hee
     cases hx
     simp only [zx3,zx4,hn,zxp,zov (hT _ _ hee).1]
    ·cases hx
   ·cases hx
  have hk:=zha h (pl':=fun i=>(fs.toList.map fun f=>(f.offset,P.cellsOf f.type)).toArray[i]?) hpl hf;refine ⟨?_,fun k hk'=>hk.2 k hk' (zlJ _ _)⟩;simp only [];have hm : ∀ {α β : Type} (f : α->β) (x : Sem α) (w : World),(f <$> x).run P w=(x.run P w).andThen fun y w'=>.ok (f y) w':=by
   intro α β f x w;show (x >>= fun y=>pure (f y)).run P w=_;rw [zxy]; rfl
  rw [zxy,Array.mapM_eq_mapM_toList,hm,zh3 hT fs.toList (fun f hf=>zx5.1 (hall f hf))];simp only [Result.andThen];rw [hz,zx6,hk.1];rfl
 | array n el =>
  rw [hd] at hf hall;simp only [allT] at hall;obtain ⟨ee,hee⟩:=zx5.1 hall;have hpl : ∀ i x,zjy T (.array n el) i=some x->(fun i=>some (i*ee.size,ee.size)) i=some x:=by
   intro i x hx;simp only [zjy,hee] at hx;exact hx
  have hk:=zha h (pl':=fun i=>some (i*ee.size,ee.size)) hpl hf;refine ⟨?_,fun k hk'=>hk.2 k hk' (zlJ _ _)⟩;simp only [];rw [zxy,(hT _ _ hee).1.run_size];simp only [Result.andThen];rw [hz,zx6,hk.1];rfl
 | _=>rw [hd] at hall; cases hall


theorem zbe {o : Oper} {s : Sem Value} {v : Value} {w w' : World} {ρ : Operand->Value} (h : execOp ρ o=(do pure (.value (<-s)) : Sem Next)) (hs : s.run P w=.ok v w') : (execOp ρ o).run P w=.ok (.value v) w':=by
 rw [h,zxy,hs]; rfl

theorem zuO (hT : zaY P T) (h : SRE C E st a w) {t : TypeId} {x : Operand} {e : TyE} {k off : Nat} {cs l : List AV} {ty : TypeId}
   (he : lk t T=some e) (hx : ev st x=some (.o (.p k off))) (hm : lk k st.me=some (.box cs ty)) (hl : zfO e.size (zgO off cs)=some l) :
   (Instr.loadAt t (a.eval x)).run P w=(if zbn e.desc then .ok (.agg (l.map (AV.real E)).toArray) w else match l with | [y]=>.ok (y.real E) w | _=>(Instr.loadAt t (a.eval x)).run P w):=by
 obtain ⟨b,hb,hcells⟩:=h.mem.ent _ _ hm;have hl':=zeV hl;rw [zeH] at hl';have hev : a.eval x=.pointer (some ⟨b,off,none⟩):=by rw [zaN h hx]; simp [SV.real,AV.real,hb]
 rw [hev];have hrun : (Instr.loadAt t (.pointer (some ⟨b,off,none⟩))).run P w=(loadVar t ⟨b,off,none⟩).run P w:=by
   unfold Instr.loadAt Instr.sureAddr;rw [zxy]; rfl
 rw [hrun];have hv:=zfe (hT _ _ he).1 (b:=b) (off:=off) (w:=w) (l:=l.map (AV.real E)) (by simp [hl'.2]) (fun j v hj=>by
   rw [zcg hcells];rw [hl'.1] at hj;simp only [zx4,zx7,zx8] at hj;simp only [zx3,zx4];split at hj
   · exact hj
   · simp at hj)
 rw [hv];split
 · rfl
 · rcases l with _ | ⟨y,_ | ⟨z,r⟩⟩ <;> rfl

theorem zmv {cs l : List AV} {off n : Nat} (hl : zfO n (zgO off cs)=some l) {k : Nat} (hk : cs.any (AV.has k)=false) : l.any (AV.has k)=false:=by
 rw [(zeV hl).1,zeH];exact zsH _ (zsA _ hk)

theorem Does.val {d : Nat} {o : Oper} {sv : SV} (h1 : (execOp a.eval o).run P w=.ok (.value (sv.real E)) w) (h2 : ∀ k,st.has k=false->sv.has k=false) : Does P E st d a w o none sv:=⟨h1,h2⟩

abbrev zx9:=@Does.val
theorem zd3 (h : SRE C E st a w) {x : Operand} {n : Int} (hx : toI (ev st x)=some n) : ∃ k,a.eval x=.int k n:=by
 unfold toI at hx;split at hx
 ·rename_i k m he
  cases hx
  exact ⟨k,by rw [zaN h he]; rfl⟩
 ·cases hx

theorem zm0 {α β : Type} (f : α->β) : ∀ (n : Nat) (l : List α),(repl n l).map f=repl n (l.map f)
 | 0,_=>rfl
 | n+1,l=>by simp [repl,zm0 f n l]
theorem zjc {α : Type} {p : α->Bool} : ∀ (n : Nat) {l : List α},l.any p=false->(repl n l).any p=false
 | 0,_,_=>rfl
 | n+1,l,h=>by rw [repl,zya,h,zjc n h]; rfl
theorem zbP {α : Type} : ∀ (n : Nat) (l : List α),(repl n l).length=n*l.length
 | 0,l=>by simp [repl]
 | n+1,l=>by simp [repl,zbP n l,zyb,zyc]
theorem zgR {α : Type} : ∀ (n : Nat) (l : List α) (i : Nat),i<n*l.length->(repl n l)[i]?=l[i%l.length]?
 | 0,l,i,h=>by simp at h
 | n+1,l,i,h=>by
  rw [repl];by_cases hi : i<l.length
  ·rw [zyd hi,zye hi]
  ·have h0 : 0<l.length:=by
    rcases zyf l.length with h0 | h0
    ·rw [h0] at h; simp at h
    ·exact h0
   rw [zyg (by omega),zgR n l _ (by rw [zyb] at h; omega),<-Nat.mod_eq_sub_mod (by omega)]

theorem zgf (el : TypeId) (cs : Array Value) : (newRow el cs).run P w=.ok ⟨w.heap.size,0,none⟩ (w.alloc (.cells cs el)):=by
 unfold newRow newObj;rw [zxy]; rfl

end
abbrev zyt:=@List.map_nil
abbrev zys:=@Array.getElem?_toList
abbrev zyr:=@congrArg
abbrev zyq:=@List.mem_of_getElem?
abbrev zyp:=@Option.map_none
abbrev zyo:=@Nat.zero_add
abbrev zyn:=@List.any_nil
abbrev zym:=@List.getElem?_eq_none
abbrev zyl:=@Nat.mod_lt
abbrev zyk:=@List.getElem?_range
abbrev zyj:=@List.ext_getElem?
abbrev zyi:=@Bool.false_eq_true
abbrev zyh:=@Array.ext'

section
variable {P : Program} {T : TT} {C : Cx} {E : Env} {st : SS} {a : Act} {w : World}

theorem zrL {k d off : Nat} (h : k≠d) : (SV.o (.p d off)).has k=false:=zaH.2 fun e=>h e.symm
theorem zvW {k d off n m : Nat} (h : k≠d) : (SV.o (.s d off n m)).has k=false:=zaH.2 fun e=>h e.symm
theorem zfu {t el : TypeId} (ht : P.underlying t=some (.slice el)) (A : Option Addr) (n c m k : Nat) (x y : Operand) (w : World) :
  (do eqGuard .eql t x y (.slice A n c) (.slice none m k); binOp .eql t (.slice A n c) (.slice none m k) : Sem Value).run P w=.ok (.bool A.isNone) w /\
  (do eqGuard .neq t x y (.slice A n c) (.slice none m k); binOp .neq t (.slice A n c) (.slice none m k) : Sem Value).run P w=.ok (.bool (!A.isNone)) w:=by
 have h1 : (Op.equalIn 10000 t (.slice A n c) (.slice none m k)).run P w=.ok A.isNone w:=by
  rw [show (10000 : Nat)=9999+1 from rfl,Op.equalIn];simp only [zxy,run_underlying ht,Result.andThen_ok]
  cases A <;> simp
 constructor
 ·simp only [eqGuard,binOp,Op.equal,Op.maxDepth,zxy];simp [h1]
 ·simp only [eqGuard,binOp,Op.equal,Op.maxDepth,zxy];simp [h1]
theorem zg1 (h : SRE C E st a w) {k : Nat} (hk : ze0 st k=true) : ∃ b,E.β k=some b:=by
 unfold ze0 at hk;split at hk
 ·rename_i hm; obtain ⟨b,hb,_⟩:=h.mem.ent _ _ hm; exact ⟨b,hb⟩
 ·rename_i hm; obtain ⟨b,hb,_⟩:=h.mem.ent _ _ hm; exact ⟨b,hb⟩
 ·cases hk

theorem zul (h : SRE C E st a w) {k n : Nat} (hk : ownN st k=some n) (hn : 0<n) : ∃ b,E.β k=some b:=by
 unfold ownN at hk;split at hk
 ·rename_i hm
  cases hk
  obtain ⟨_,_,⟨_,_,h0⟩ | ⟨b,cur,hb,_⟩⟩:=zbH (h.mem.ent _ _ hm)
  ·omega
  ·exact ⟨b,hb⟩
 ·cases hk

theorem zm7 {t : TypeId} {e : TyE} (ht : TyOk P t e) {cs : Array Value} {off : Nat} {l : List Value} (hl : zfO e.size (zgO off cs.toList)=some l) :
  (part t cs off).run P w=if zbn e.desc then .ok (.agg l.toArray) w else match l with | [y]=>.ok y w | _=>(part t cs off).run P w:=by
 have hl':=zeV hl;rw [zeH] at hl';by_cases hg : zbn e.desc=true
 ·rw [zxJ hg];unfold part;rw [zxy,ht.run_isAgg,hg];simp only [Result.andThen];simp only [if_true];rw [zxy,ht.run_size];simp only [Result.andThen,zxZ]
  congr 2
  apply zyh;rw [hl'.1,Array.toList_extract];simp [List.extract,List.take_drop]
 ·rw [zxI hg];rcases l with _ | ⟨y,_ | ⟨z,r⟩⟩
  ·rfl
  ·unfold part;rw [zxy,ht.run_isAgg];simp only [Result.andThen];rw [zxI hg];have h0 : cs[off]?=some y:=by
    have h1 : (cs.toList.drop off).take e.size=[y]:=hl'.1.symm;have h2 : ((cs.toList.drop off).take e.size)[0]?=some y:=by rw [h1]; rfl
    rw [zx7] at h2;split at h2
    ·simpa using h2
    ·cases h2
   rw [h0];rfl
  ·rfl

theorem zcH {t el : TypeId} {e ee : TyE} (ht : TyOk P t e) (hd : e.desc=.slice el) (hee : TyOk P el ee) {b : Addr} {n cap : Nat} {k : IntKind} {j : Int} (hj : 0<=j/\j<n) :
  (Instr.indexAt t (.slice (some b) n cap) (.int k j)).run P w=.ok (.pointer (some (b.add (j.toNat*ee.size)))) w:=by
 have hu:=ht.und;rw [hd] at hu;have hs:=hee.run_size (w:=w);simp [Instr.indexAt,asIntOf,run_underlying hu,hs,hj.1,hj.2]
theorem zgg {t el : TypeId} {e ee : TyE} {n : Nat} (ht : TyOk P t e) (hd : e.desc=.array n el) (hee : TyOk P el ee) {b : Addr} {k : IntKind} {j : Int} (hj : 0<=j/\j<n) :
  (Instr.indexAt t (.pointer (some b)) (.int k j)).run P w=.ok (.pointer (some (b.add (j.toNat*ee.size)))) w:=by
 have hu:=ht.und;rw [hd] at hu;have hs:=hee.run_size (w:=w);simp [Instr.indexAt,asIntOf,run_underlying hu,hs,hj.1,hj.2,Instr.sureAddr]
theorem zk6 {s : TypeId} {e : TyE} {fs : Array Field} {fd : Field} {f : Nat} (ht : TyOk P s e) (hd : e.desc=.struct fs) (hf : fs[f]?=some fd) {cs : Array Value} :
  (Instr.field s (.agg cs) f).run P w=(part fd.type cs fd.offset).run P w:=by
 have hu:=ht.und;rw [hd] at hu;unfold Instr.field;rw [zxy,run_underlying hu];simp only [Result.andThen,hf];rfl
theorem zgt {st : SS} {k' k off off' : Nat} {x : Operand} (hk : st.has k'=false) (hx : ev st x=some (.o (.p k off))) : (SV.o (.p k off')).has k'=false:=by have:=zcC hk hx; exact this
theorem zlu {st : SS} {k' k off off' n m : Nat} {x : Operand} (hk : st.has k'=false) (hx : ev st x=some (.o (.s k off n m))) : (SV.o (.p k off')).has k'=false:=by have:=zcC hk hx; exact this
theorem zk3 {st : SS} {k' k off' : Nat} {x : Operand} (hk : st.has k'=false) (hx : ev st x=some (.o (.w k))) : (SV.o (.p k off')).has k'=false:=by have:=zcC hk hx; exact this

set_option maxHeartbeats 1000000 in
theorem zeQ {P : Program} {w : World} (isSlice : Bool) (len cap : Nat) {lo hi : Option Value} {l h' : Int} (hl : (lo=none/\l=0)\/∃ k,lo=some (.int k l)) (hh : (hi=none/\h'=len)\/∃ k,hi=some (.int k h')) (h0 : 0<=l) (h1 : l<=h') (h2 : h'<=cap) :
  (Instr.sliceBounds isSlice len cap lo hi none).run P w=.ok (l.toNat,h'.toNat,cap) w:=by
 have hb : ∀ (k : IntKind) (i : Int) (y : Nat) (c : BoundsCode),0<=i->i<=y->(Instr.sliceBound (.int k i) y c).run P w=.ok i.toNat w:=by
  intro k i y c hi0 hi1;unfold Instr.sliceBound;rw [zxy];simp only [asIntOf,zxZ,Result.andThen];rw [zxJ ⟨hi0,hi1⟩];rfl
 unfold Instr.sliceBounds;rcases hl with ⟨rfl,rfl⟩ | ⟨kl,rfl⟩ <;> rcases hh with ⟨rfl,rfl⟩ | ⟨kh,rfl⟩
 ·simp [zxy,Result.andThen]
 ·simp only [zxy,zxZ,Result.andThen]
  cases isSlice <;> simp [hb kh h' cap _ (by omega) h2]
 ·simp only [zxy,zxZ,Result.andThen];rw [hb kl l len _ h0 h1];simp
 ·simp only [zxy,zxZ,Result.andThen];have:=hb kl l h'.toNat .sliceB h0 (by omega)
  cases isSlice <;> simp [hb kh h' cap _ (by omega) h2,this]

theorem zhD {P : Program} {w : World} (len cap : Nat) {k1 k2 : IntKind} {h' m : Int} (h0 : 0<=h') (h1 : h'<=m) (h2 : m<=cap) :
  (Instr.sliceBounds true len cap none (some (.int k1 h')) (some (.int k2 m))).run P w=.ok (0,h'.toNat,m.toNat) w:=by
 have hb : ∀ (k : IntKind) (i : Int) (y : Nat) (c : BoundsCode),0<=i->i<=y->(Instr.sliceBound (.int k i) y c).run P w=.ok i.toNat w:=by
  intro k i y c hi0 hi1;unfold Instr.sliceBound;rw [zxy];simp only [asIntOf,zxZ,Result.andThen];rw [zxJ ⟨hi0,hi1⟩];rfl
 unfold Instr.sliceBounds;simp only [zxy,zxZ,Result.andThen];simp [hb k2 m cap _ (by omega) h2,hb k1 h' m.toNat _ h0 (by omega)]
theorem zkB (hT : zaY P T) (h : SRE C E st a w) {o : Oper} {d : Nat} {c : Option Prop} {m : Option ME} {sv : SV}
  (hd : dop T st d o.op=some (c,m,sv)) (hc : ∀ p,c=some p->p) : Does P E st d a w o m sv:=by
 obtain ⟨dst,op,type,pos,after,guard⟩:=o
 cases op <;> simp only at hd
 case move x =>
  simp only [dop] at hd;split at hd
  ·rename_i s hx; cases hd; exact zx9 (by rw [<-zaN h hx]; rfl) (fun k hk=>zcC hk hx)
  ·cases hd
 case assign x =>
  simp only [dop] at hd;split at hd
  ·rename_i s hx; cases hd; exact zx9 (by rw [<-zaN h hx]; rfl) (fun k hk=>zcC hk hx)
  ·cases hd
 case pick x y z =>
  simp only [dop] at hd;split at hd
  ·rename_i bb hx;have hcx:=zaN h hx
   cases bb <;> simp only at hd <;> split at hd
   ·rename_i s hy; cases hd; exact zx9 (by simp only [execOp,hcx,SV.real,AV.real,asBool]; rw [zxy,zxZ]; simp only [Result.andThen,zaN h hy,if_true,zyi,if_false]; rfl) (fun k hk=>zcC hk hy)
   ·cases hd
   ·rename_i s hy; cases hd; exact zx9 (by simp only [execOp,hcx,SV.real,AV.real,asBool]; rw [zxy,zxZ]; simp only [Result.andThen,zaN h hy,if_true,zyi,if_false]; rfl) (fun k hk=>zcC hk hy)
   ·cases hd
  ·cases hd
 case alloc t =>
  simp only [dop] at hd;split at hd
  ·rename_i e he;obtain ⟨h1,rfl,rfl⟩:=zhz hd;refine ⟨_,_,rfl,h1,fun k _=>zlJ _ _,?_,fun k hk=>zrL hk⟩;refine zbe rfl ?_;unfold Instr.alloc;rw [zxy,(hT _ _ he).1.run_zero];simp only [Result.andThen];rw [zxy];unfold newVar;rw [zgf,zgd];simp [Result.andThen,SV.real,AV.real,Env.set,go_sem]
  ·cases hd
 case box t x =>
  simp only [dop] at hd;split at hd
  ·rename_i s hx;obtain ⟨h1,rfl,rfl⟩:=zhz hd;refine ⟨_,_,rfl,h1,fun k hk=>zxH (zcC hk hx),?_,fun k hk=>zrL hk⟩;refine zbe rfl ?_;unfold Instr.box;rw [zxy];unfold newVar;rw [zgf,zaN h hx];have : (s.real E).cells=(s.cells.map (AV.real E)).toArray:=by rw [<-SV.cells_real]
   rw [this];simp [Result.andThen,SV.real,AV.real,Env.set,go_sem]
  ·cases hd
 case build t ps =>
  simp only [dop] at hd;split at hd
  ·rename_i e he;by_cases hall : allT T e.desc=true
   ·rw [hall] at hd;simp only [cond_true] at hd;split at hd
    ·rename_i cs hf;rw [znH] at hd
     cases hd
     have:=zk4 hT h he hall hf;exact zx9 (zbe rfl (by rw [zi3]; exact this.1)) (fun k hk=>zjt (this.2 k hk))
    ·cases hd
   ·rw [zxG] at hall;rw [hall] at hd; cases hd
  ·cases hd
 case buildSlice t n ps =>
  simp only [dop] at hd;split at hd
  ·rename_i e he;split at hd
   ·rename_i el hdesc;split at hd
    ·rename_i ee hee;by_cases hb : (Nat.ble (n*ee.size) 1000&&Nat.beq ee.zero.cells.toList.length ee.size)=true
     ·rw [hb] at hd;simp only [cond_true] at hd;simp only [zxV] at hb;have hb1:=zxW hb.1;have hb2:=zxj hb.2;split at hd
      ·rename_i cs hf;obtain ⟨h1,rfl,rfl⟩:=zhz hd;have hk:=zha h (pl':=fun i=>some (i*ee.size,ee.size)) (fun _ _ h=>h) hf;refine ⟨_,_,rfl,h1,fun k hk'=>hk.2 k hk' (zjc _ (zlJ _ _)),?_,fun k hk=>zvW hk⟩;refine zbe rfl ?_;unfold Instr.buildSlice;rw [zxy,(hT _ _ he).1.run_und,hdesc];simp only [Result.andThen];rw [zxy,(hT _ _ hee).1.run_size];simp only [Result.andThen];rw [zxI (by omega)];have hcells : ((Array.range (n*ee.size)).map fun x=>(if n*ee.size=0 then (#[] : Array Value) else ee.zero.cells)[x%(if n*ee.size=0 then (#[] : Array Value) else ee.zero.cells).size]!) =
         ((repl n (ee.zero.cells.toList.map AV.v)).map (AV.real E)).toArray:=by
        rw [zm0,zgd];by_cases h0 : n*ee.size=0
        ·rw [h0];have : (repl n ee.zero.cells.toList).length=0:=by rw [zbP,hb2]; exact h0
         rw [List.eq_nil_of_length_eq_zero this];simp
        ·simp only [h0,if_false];apply zyh;apply zyj;intro i;simp only [zx6,Array.toList_range,zx4];by_cases hi : i<n*ee.size
         ·rw [zyk hi,zgR _ _ _ (by rw [hb2]; exact hi)];simp only [zxp];have hs : ee.zero.cells.size=ee.size:=by rw [<-hb2]; simp
          have hlt : i%ee.size<ee.zero.cells.size:=by rw [hs]; exact zyl _ (by rcases zyf ee.size with h | h; (rw [h] at h0; simp at h0); exact h)
          rw [hb2,hs];simp [hlt]
         ·rw [zym (by simp; omega),zym (by rw [zbP,hb2]; omega)];rfl
       have hfin : ∀ (z : Array Value),z=(if n*ee.size=0 then (#[] : Array Value) else ee.zero.cells) ->
         (Sem.run P (do
          let some cells:=Instr.fill (fun i=>some (i*ee.size,ee.size)) ((Array.range (n*ee.size)).map (z[· % z.size]!)) (ps.map fun p=>(p.1,a.eval p.2)).toList
           | stuck "buildSlice: a part of the wrong size"
          pure (Value.slice (some (<-newRow el cells)) n n) : Sem Value) w)=.ok (Value.slice (some ⟨w.heap.size,0,none⟩) n n) (w.alloc (.cells (cs.map (AV.real E)).toArray el)):=by
        intro z hz;subst hz;rw [hcells,zx6,hk.1];simp only [];rw [zxy,zgf];rfl
       by_cases h0 : n*ee.size=0
       ·rw [zxJ h0,zxy];simp only [zxZ,Result.andThen];refine (hfin #[] (by rw [zxJ h0])).trans ?_;simp [SV.real,AV.real,Env.set]
       ·rw [zxI h0,zxy,(hT _ _ hee).1.run_zero];simp only [Result.andThen];rw [zxy];simp only [zxZ,Result.andThen];refine (hfin ee.zero.cells (by rw [zxI h0])).trans ?_;simp [SV.real,AV.real,Env.set]
      ·cases hd
     ·rw [zxG] at hb;rw [hb] at hd; cases hd
    ·cases hd
   ·cases hd
  ·cases hd
 case load t x =>
  simp only [dop] at hd;split at hd
  ·rename_i e k off he hx;split at hd
   ·rename_i cs ty hm;split at hd
    ·rename_i l hl;have hr:=zuO hT h he hx hm hl;have hk : ∀ k',st.has k'=false->l.any (AV.has k')=false:=fun k' hk'=>zmv hl (zxE hk' hm).2
     by_cases hg : zbn e.desc=true
     ·rw [hg] at hd;simp only [cond_true,znH] at hd
      cases hd
      rw [zxJ hg] at hr;exact zx9 (zbe rfl (by rw [zi3]; exact hr)) (fun k' hk'=>zjt (hk k' hk'))
     ·rw [zxI hg] at hr;rw [zxG] at hg;rw [hg] at hd;simp only [cond_false] at hd;split at hd
      ·rename_i y
       cases hd
       exact zx9 (zbe rfl hr) (fun k' hk'=>by have:=hk k' hk'; rw [zxN,zyn,zxO] at this; exact this)
      ·cases hd
    ·cases hd
   ·cases hd
  ·cases hd
 case binOp op t x y yt =>
  simp only [dop] at hd;have hrun : ∀ {v : Value},(do eqGuard op t x y (a.eval x) (a.eval y); binOp op t (a.eval x) (a.eval y) : Sem Value).run P w=.ok v w ->
    (execOp a.eval ⟨dst,.binOp op t x y yt,type,pos,after,guard⟩).run P w=.ok (.value v) w:=fun hv=>zbe rfl hv
  split at hd
  ·rename_i k n k' n' hx hy;obtain ⟨rfl,v,rfl,hv⟩:=zsE (P:=P) (w:=w) hd hc;refine zaQ (hrun ?_);rw [zaN h hx,zaN h hy];simp only [SV.real,AV.real,zhF];exact hv t
  ·rename_i b b' hx hy;obtain ⟨rfl,v,rfl,hv⟩:=zro (P:=P) (w:=w) hd hc;refine zaQ (hrun ?_);rw [zaN h hx,zaN h hy];simp only [SV.real,AV.real,zhE];exact hv t
  ·rename_i b b' hx hy;split at hd
   ·rename_i e he;split at hd
    ·rename_i hdesc
     cases hd
     refine zaQ (hrun ?_);rw [zaN h hx,zaN h hy];simp only [SV.real,AV.real,zd7];exact run_eql_bool w t b b' ((hT _ _ he).1.und.trans (by rw [hdesc]))
    ·cases hd
   ·rename_i e he;split at hd
    ·rename_i hdesc
     cases hd
     refine zaQ (hrun ?_);rw [zaN h hx,zaN h hy];simp only [SV.real,AV.real,zd7];exact run_neq_bool w t b b' ((hT _ _ he).1.und.trans (by rw [hdesc]))
    ·cases hd
   ·cases hd
  ·rename_i xs ys hx hy;split at hd
   ·rename_i e he;split at hd
    ·rename_i ks hks;have hlaw:=(hT _ _ he).2 ks hks;split at hd
     ·rename_i r hr
      cases hd
      refine zaQ (hrun ?_);rw [zaN h hx,zaN h hy];exact (hlaw xs ys r x y w hr).1
     ·rename_i r hr
      cases hd
      refine zaQ (hrun ?_);rw [zaN h hx,zaN h hy];exact (hlaw xs ys r x y w hr).2
     ·cases hd
    ·cases hd
   ·cases hd
  ·rename_i A n c m k hx hy;split at hd
   ·rename_i e he;split at hd
    ·rename_i el hdesc
     cases hd
     refine zaQ (hrun ?_);rw [zaN h hx,zaN h hy];exact (zfu ((hT _ _ he).1.und.trans (by rw [hdesc])) A n c m k x y w).1
    ·cases hd
   ·rename_i e he;split at hd
    ·rename_i el hdesc
     cases hd
     refine zaQ (hrun ?_);rw [zaN h hx,zaN h hy];exact (zfu ((hT _ _ he).1.und.trans (by rw [hdesc])) A n c m k x y w).2
    ·cases hd
   ·cases hd
  ·cases hd
 case unOp op t x =>
  simp only [dop] at hd;split at hd
  ·rename_i b hx
   cases hd
   refine zaQ (zbe rfl ?_);rw [zaN h hx]; rfl
  ·rename_i k n hx
   cases hd
   refine zaQ (zbe rfl ?_);rw [zaN h hx]; rfl
  ·rename_i k n hx
   cases hd
   refine zaQ (zbe rfl ?_);rw [zaN h hx]; rfl
  ·cases hd
 case convert s t x =>
  simp only [dop] at hd;split at hd
  ·rename_i es e k n hs he hx;split at hd
   ·rename_i k' hdesc
    cases hd
    refine zaQ (zbe rfl ?_);rw [zaN h hx];unfold convert;rw [zxy,(hT _ _ hs).1.run_und];simp only [Result.andThen];rw [zxy,(hT _ _ he).1.run_und,hdesc];rfl
   ·cases hd
  ·rename_i es e b hs he hx;split at hd
   ·rename_i h1 h2
    cases hd
    refine zaQ (zbe rfl ?_);rw [zaN h hx];unfold convert;rw [zxy,(hT _ _ hs).1.run_und,h1];simp only [Result.andThen];rw [zxy,(hT _ _ he).1.run_und,h2];rfl
   ·cases hd
  ·cases hd
 case makeFunc fn first captured =>
  cases fn with
  | func f =>
   simp only [dop] at hd;split at hd
   ·rename_i l hfirst hl
    cases hd
    have hk:=zhM h hl;refine zx9 (zbe rfl ?_) (fun k hk'=>hk.2 k hk');have hf : first=#[]:=Array.toList_inj.1 hfirst
    subst hf;have e : captured.map a.eval=(l.map (CP.real E)).toArray:=by rw [<-hk.1]; apply zyh; simp
    show Result.ok (Value.func (.func f) ((#[] : Array Operand).map a.eval) (captured.map a.eval)) w=_;rw [e];simp [SV.real,AV.real]
   ·cases hd
  | _=>simp [dop] at hd
 case fieldAddr s x f =>
  simp only [dop] at hd;split at hd
  ·rename_i e y he hx;split at hd
   ·rename_i fd hfd;split at hd
    ·rename_i fe hfe;obtain ⟨fs,hdesc,hfs⟩:=zsR hfd;by_cases hz : fe.size=0
     ·rw [znn.2 hz] at hd; cases hd
     ·rw [zaH.2 hz] at hd;simp only [cond_false] at hd;have hgo : ∀ (b o : Nat),a.eval x=.pointer (some ⟨b,o,none⟩)->(Instr.fieldAt s (a.eval x) f).run P w=.ok (.pointer (some ⟨b,o+fd.offset,none⟩)) w:=by
       intro b o hev;rw [hev];unfold Instr.fieldAt;rw [zxy,(hT _ _ he).1.run_und,hdesc];simp only [Result.andThen,hfs];rw [zxy];simp only [Instr.sureAddr,zxZ,Result.andThen];rw [zxy];unfold fieldPlace;rw [zxy,(hT _ _ hfe).1.run_size];simp only [Result.andThen];rw [zxI hz];simp only [zxZ,Result.andThen,zxK]
      split at hd
      ·rename_i k off
       cases hbx : ze0 st k with
       | false =>
        rw [hbx] at hd;simp only [cond_false] at hd;split at hd
        ·rename_i n hon
         cases hd
         obtain ⟨b,hb⟩:=zul h hon (hc _ rfl);refine zx9 (zbe rfl ?_) (fun k' hk'=>zgt hk' hx);have hev:=zaN h hx;simp only [SV.real,AV.real,hb] at hev ⊢;exact hgo b off hev
        ·cases hd
       | true =>
        rw [hbx] at hd
        cases hd
        obtain ⟨b,hb⟩:=zg1 h hbx;refine zx9 (zbe rfl ?_) (fun k' hk'=>zgt hk' hx);have hev:=zaN h hx;simp only [SV.real,AV.real,hb] at hev ⊢;exact hgo b off hev
      ·rename_i b o
       cases hd
       exact zaQ (zbe rfl (hgo b o (zaN h hx)))
      ·cases hd
    ·cases hd
   ·cases hd
  ·cases hd
 case field s x f =>
  simp only [dop] at hd;split at hd
  ·rename_i e y he hx;split at hd
   ·rename_i fd hfd;split at hd
    ·rename_i fe hfe;obtain ⟨fs,hdesc,hfs⟩:=zsR hfd;split at hd
     ·rename_i cs;split at hd
      ·rename_i l hl;have hrun : (Instr.field s (a.eval x) f).run P w=(part fd.type cs fd.offset).run P w:=by
        rw [zaN h hx];exact zk6 (hT _ _ he).1 hdesc hfs
       have hp:=zm7 (hT _ _ hfe).1 (w:=w) hl;by_cases hg : zbn fe.desc=true
       ·rw [hg] at hd; cases hd;rw [zxJ hg] at hp;exact zaQ (zbe rfl (hrun.trans hp))
       ·rw [zxI hg] at hp;rw [zxG] at hg;rw [hg] at hd;simp only [cond_false] at hd;split at hd
        ·cases hd
         exact zaQ (zbe rfl (hrun.trans hp))
        ·cases hd
      ·cases hd
     ·cases hd
    ·cases hd
   ·cases hd
  ·cases hd
 case indexAddr t x i =>
  simp only [dop] at hd;split at hd
  ·rename_i e y j he hx hj;obtain ⟨ki,hji⟩:=zd3 h hj;split at hd
   ·rename_i n el hdesc;split at hd
    ·rename_i ee k off hee
     cases hbx : ze0 st k with
     | false=>rw [hbx] at hd; cases hd
     | true =>
      rw [hbx] at hd
      cases hd
      have hcond:=hc _ rfl;obtain ⟨b,hb⟩:=zg1 h hbx;refine zx9 (zbe rfl ?_) (fun k' hk'=>zgt hk' hx);have hev:=zaN h hx;simp only [SV.real,AV.real,hb,zxp] at hev ⊢;rw [hev,hji,zgg (hT _ _ he).1 hdesc (hT _ _ hee).1 hcond,zxK]
    ·cases hd
   ·rename_i el hdesc;split at hd
    ·rename_i ee k off n cap hee
     cases hbx : ze0 st k with
     | false=>rw [hbx] at hd; cases hd
     | true =>
      rw [hbx] at hd
      cases hd
      have hcond:=hc _ rfl;obtain ⟨b,hb⟩:=zg1 h hbx;refine zx9 (zbe rfl ?_) (fun k' hk'=>zlu hk' hx);have hev:=zaN h hx;simp only [SV.real,AV.real,hb,zxp] at hev ⊢;rw [hev,hji,zcH (hT _ _ he).1 hdesc (hT _ _ hee).1 hcond,zxK]
    ·rename_i ee A n cap hee
     cases hd
     obtain ⟨hc1,hc2,hc3⟩:=hc _ rfl;refine zaQ (zbe rfl ?_);rw [zaN h hx,hji];obtain ⟨b,rfl⟩:=zx5.1 hc3;exact zcH (hT _ _ he).1 hdesc (hT _ _ hee).1 ⟨hc1,hc2⟩
    ·rename_i ee k hee;split at hd
     ·rename_i n xs hm
      cases hd
      have hcond:=hc _ rfl;obtain ⟨_,hn,⟨_,_,h0⟩ | ⟨b,cur,hb,_⟩⟩:=zbH (h.mem.ent _ _ hm)
      ·omega
      ·refine zx9 (zbe rfl ?_) (fun k' hk'=>zk3 hk' hx);have hev:=zaN h hx;simp only [SV.real,AV.real,hb,hn,zxp] at hev ⊢;rw [hev,hji,zcH (hT _ _ he).1 hdesc (hT _ _ hee).1 hcond,zxK,zyo]
     ·cases hd
    ·cases hd
   ·cases hd
  ·cases hd
 case index t x i =>
  simp only [dop] at hd;split at hd
  ·rename_i e y j he hx hj;obtain ⟨ki,hji⟩:=zd3 h hj;split at hd
   ·rename_i s hdesc
    cases hd
    obtain ⟨hc1,hc2⟩:=hc _ rfl;refine zaQ (zbe rfl ?_);rw [zaN h hx,hji];simp only [SV.real,AV.real];unfold Instr.index;rw [zxy];simp only [asIntOf,zxZ,Result.andThen];rw [zxy,(hT _ _ he).1.run_und,hdesc];simp only [Result.andThen];rw [zxJ hc1];have hlt : j.toNat<s.size:=by omega
    have hs : s[j.toNat]?=some s[j.toNat]:=by simp [hlt]
    rw [hs];simp [sb,hs]
   ·rename_i n el cs hdesc;split at hd
    ·rename_i ee hee;split at hd
     ·rename_i l hl;have hp:=zm7 (hT _ _ hee).1 (w:=w) hl;have hrun : 0<=j/\j<n->(Instr.index t (a.eval x) (a.eval i)).run P w=(part el cs (j.toNat*ee.size)).run P w:=by
       intro hcond;rw [zaN h hx,hji];simp only [SV.real,AV.real];unfold Instr.index;rw [zxy];simp only [asIntOf,zxZ,Result.andThen];rw [zxy,(hT _ _ he).1.run_und,hdesc];simp only [Result.andThen];rw [zxJ hcond,zxy,(hT _ _ hee).1.run_size];rfl
      by_cases hg : zbn ee.desc=true
      ·rw [hg] at hd
       cases hd
       rw [zxJ hg] at hp;exact zaQ (zbe rfl ((hrun (hc _ rfl)).trans hp))
      ·rw [zxI hg] at hp;rw [zxG] at hg;rw [hg] at hd;simp only [cond_false] at hd;split at hd
       ·cases hd
        exact zaQ (zbe rfl ((hrun (hc _ rfl)).trans hp))
       ·cases hd
     ·cases hd
    ·cases hd
   ·cases hd
  ·cases hd
 case slice t x lo hi mx =>
  simp only [dop] at hd;split at hd
  ·rename_i e s he hx;split at hd
   ·rename_i hdesc;split at hd
    ·rename_i l hh hl hhh
     cases hd
     obtain ⟨hc1,hc2,hc3⟩:=hc _ rfl;refine zaQ (zbe rfl ?_);rw [zaN h hx];simp only [SV.real,AV.real];unfold Instr.sliceAt;rw [zxy,(hT _ _ he).1.run_und,hdesc];simp only [Result.andThen];unfold Instr.slice;rw [zxy,(hT _ _ he).1.run_und,hdesc];simp only [Result.andThen,zyp,Option.isSome_none,zyi,if_false];have hb : (Instr.sliceBounds false s.size s.size (lo.map a.eval) (hi.map a.eval) none).run P w=.ok (l.toNat,hh.toNat,s.size) w:=by
      have hbd : ∀ (z : Operand) (n : Int) (y : Nat) (code : BoundsCode),toI (ev st z)=some n->0<=n/\n<=y->(Instr.sliceBound (a.eval z) y code).run P w=.ok n.toNat w:=by
       intro z n y code hz hn;obtain ⟨kz,hz⟩:=zd3 h hz;rw [hz];unfold Instr.sliceBound;rw [zxy];simp only [asIntOf,zxZ,Result.andThen];rw [zxJ hn];rfl
      cases lo with
      | none =>
       simp only [zxq] at hl;subst hl
       cases hi with
       | none =>
        simp only [zxq] at hhh;subst hhh;simp [Instr.sliceBounds]
       | some z=>simp [Instr.sliceBounds,hbd z hh s.size _ hhh ⟨by omega,hc3⟩]
      | some y =>
       cases hi with
       | none =>
        simp only [zxq] at hhh;subst hhh;simp [Instr.sliceBounds,hbd y l s.size _ hl ⟨hc1,hc2⟩]
       | some z=>simp [Instr.sliceBounds,hbd z hh s.size _ hhh ⟨by omega,hc3⟩,hbd y l hh.toNat _ hl ⟨hc1,by omega⟩]
     rw [zxy,hb];rfl
    ·cases hd
   ·cases hd
  ·rename_i e A n c he hx;split at hd
   ·rename_i el hdesc;split at hd
    ·rename_i ee l h' hee hl hh
     cases hd
     obtain ⟨hc1,hc2,hc3⟩:=hc _ rfl;have hopt1 : (lo.map a.eval=none/\l=0)\/∃ k,lo.map a.eval=some (.int k l):=by
      cases lo with
      | none=>simp only [zxq] at hl; exact .inl ⟨rfl,hl.symm⟩
      | some z=>obtain ⟨k,hk⟩:=zd3 h hl; exact .inr ⟨k,by simp [hk]⟩
     have hopt2 : (hi.map a.eval=none/\h'=n)\/∃ k,hi.map a.eval=some (.int k h'):=by
      cases hi with
      | none=>simp only [zxq] at hh; exact .inl ⟨rfl,hh.symm⟩
      | some z=>obtain ⟨k,hk⟩:=zd3 h hh; exact .inr ⟨k,by simp [hk]⟩
     refine zaQ (zbe rfl ?_);have hu:=(hT _ _ he).1.run_und (w:=w);rw [hdesc] at hu;rw [zaN h hx];simp only [SV.real,AV.real];unfold Instr.sliceAt;rw [zxy,hu];simp only [Result.andThen];unfold Instr.slice;rw [zxy,hu];simp only [Result.andThen,zyp];rw [zxy,zeQ true n c hopt1 hopt2 hc1 hc2 hc3];simp only [Result.andThen];rw [zxy,(hT _ _ hee).1.run_size];simp only [Result.andThen,zxZ]
    ·cases hd
   ·cases hd
  ·rename_i e A n c mm he hx;split at hd
   ·rename_i el hh hdesc;split at hd
    ·rename_i ee h' m hee hh' hm'
     cases hd
     obtain ⟨hc1,hc2,hc3⟩:=hc _ rfl;obtain ⟨k1,hev1⟩:=zd3 h hh';obtain ⟨k2,hev2⟩:=zd3 h hm';refine zaQ (zbe rfl ?_);have hu:=(hT _ _ he).1.run_und (w:=w);rw [hdesc] at hu;rw [zaN h hx];simp only [SV.real,AV.real];unfold Instr.sliceAt;rw [zxy,hu];simp only [Result.andThen];unfold Instr.slice;rw [zxy,hu];simp only [Result.andThen,zyp,zxp,hev1,hev2];rw [zxy,zhD n c hc1 hc2 hc3];simp only [Result.andThen];rw [zxy,(hT _ _ hee).1.run_size];simp only [Result.andThen,zxZ];have hz : Option.map (fun x : Addr=>x.add (0*ee.size)) A=A:=by
      cases A with
      | none=>rfl
      | some z=>simp [Addr.add]
     rw [hz];simp
    ·cases hd
   ·cases hd
  ·cases hd
 case extract x i =>
  simp only [dop] at hd;split at hd
  ·rename_i y hx;split at hd
   ·rename_i vs;split at hd
    ·rename_i v hv
     cases hd
     refine zx9 (zbe rfl ?_) (fun k' hk'=>?_)
     ·rw [zaN h hx];rw [zdc] at hv;show _=Result.ok (v.av.real E) w;rw [TP.real_av];simp only [SV.real,AV.real];have : (vs.map (TP.real E)).toArray[i]?=some (v.real E):=by simp [hv]
      simp [Instr.extract,this]
     ·have h1:=zcC hk' hx;rw [zdc] at hv;simp only [SV.has,AV.has,zxk] at h1;have h2:=h1 v (zyq hv);rw [zxG] at h2
      cases v <;> exact h2
    ·cases hd
   ·split at hd
    ·rename_i vs;split at hd
     ·rename_i v hv
      cases hd
      refine zaQ (zbe rfl ?_);rw [zaN h hx];rw [zdc] at hv;have : vs[i]?=some v:=by simpa using hv
      simp [SV.real,AV.real,Instr.extract,this]
     ·cases hd
    ·cases hd
   ·cases hd
  ·cases hd
 case call c =>
  obtain ⟨zco,args,ts⟩:=c
  cases zco with
  | builtin b =>
   simp only [dop] at hd;have hrun : ∀ {v : Value} (s : Sem Value),(builtin b ts type (args.map fun | .const _=>true | _=>false) (args.map a.eval))=(do pure (.value (<-s)) : Sem Next)->s.run P w=.ok v w ->
     (execOp a.eval ⟨dst,.call ⟨.builtin b,args,ts⟩,type,pos,after,guard⟩).run P w=.ok (.value v) w:=by
    intro v s hs hv;show (do let d <-resolve a.eval ⟨.builtin b,args,ts⟩ type; invoke d.target d.args : Sem Next).run P w=_;simp only [resolve,pure_bind,invoke];exact (zyr (fun z : Sem Next=>z.run P w) hs).trans (by rw [zxy,hv]; rfl)
   unfold zsB at hd;split at hd
   ·rename_i t tr x hts hargs;split at hd
    ·rename_i e he;have hu:=(hT _ _ he).1.und;obtain ⟨y,hy,hxy⟩ : ∃ y,args=#[y]/\ev st y=some (.o x):=by
      rcases args with ⟨_ | ⟨y,_ | ⟨z,r⟩⟩⟩
      ·simp at hargs
      ·exact ⟨y,rfl,by simpa using hargs⟩
      ·simp at hargs
     subst hy;have hey:=zaN h hxy;have htt : ts[0]?=some t:=by rw [<-zys,hts]; rfl
     have hlen : ∀ (v : Value),(Builtin.len_ ts type #[a.eval y]).run P w=.ok v w ->
       (execOp a.eval ⟨dst,.call ⟨.builtin .len,#[y],ts⟩,type,pos,after,guard⟩).run P w=.ok (.value v) w:=fun v hv=>hrun _ rfl (by rw [show (#[y].map a.eval)=#[a.eval y] by simp]; exact hv)
     split at hd
     ·rename_i s hdesc
      cases hd
      rw [hdesc] at hu;exact zaQ (hlen _ (by rw [hey]; simp [Builtin.len_,htt,SV.real,AV.real,run_underlying hu,goInt]))
     ·rename_i n el hdesc
      cases hd
      rw [hdesc] at hu;exact zaQ (hlen _ (by simp [Builtin.len_,htt,run_underlying hu,goInt]))
     ·rename_i A n cap hdesc
      cases hd
      rw [hdesc] at hu;exact zaQ (hlen _ (by rw [hey]; simp [Builtin.len_,htt,SV.real,AV.real,run_underlying hu,goInt]))
     ·rename_i A n cap hdesc
      cases hd
      rw [hdesc] at hu;exact zaQ (hlen _ (by rw [hey]; simp [Builtin.len_,htt,SV.real,AV.real,run_underlying hu,goInt]))
     ·rename_i k hdesc;split at hd
      ·rename_i n xs hm
       cases hd
       rw [hdesc] at hu;have hω : (E.ω k).1=n:=(zbH (h.mem.ent _ _ hm)).2.1;exact zaQ (hlen _ (by rw [hey]; simp [Builtin.len_,htt,SV.real,AV.real,run_underlying hu,goInt,hω]))
      ·cases hd
     ·cases hd
    ·cases hd
   ·rename_i k x k' y hargs;obtain ⟨p,q,hp,hxp,hxq⟩ : ∃ p q,args=#[p,q]/\ev st p=some (.o (.v (.int k x)))/\ev st q=some (.o (.v (.int k' y))):=by
     rcases args with ⟨_ | ⟨p,_ | ⟨q,_ | ⟨z,r⟩⟩⟩⟩
     ·simp at hargs
     ·simp at hargs
     ·exact ⟨p,q,rfl,by simpa using hargs⟩
     ·simp at hargs
    subst hp
    cases hd
    exact zaQ (hrun _ rfl (by simp only [List.map_toArray,zxT,zyt,zaN h hxp,zaN h hxq]; exact run_max_int2 w ts type k k' x y))
   ·rename_i k x k' y hargs;obtain ⟨p,q,hp,hxp,hxq⟩ : ∃ p q,args=#[p,q]/\ev st p=some (.o (.v (.int k x)))/\ev st q=some (.o (.v (.int k' y))):=by
     rcases args with ⟨_ | ⟨p,_ | ⟨q,_ | ⟨z,r⟩⟩⟩⟩
     ·simp at hargs
     ·simp at hargs
     ·exact ⟨p,q,rfl,by simpa using hargs⟩
     ·simp at hargs
    subst hp
    cases hd
    exact zaQ (hrun _ rfl (by simp only [List.map_toArray,zxT,zyt,zaN h hxp,zaN h hxq]; exact run_min_int2 w ts type k k' x y))
   ·rename_i k x k' y k'' z k3 u hargs;obtain ⟨p,q,p',q',hp,hxp,hxq,hxp',hxq'⟩ : ∃ p q p' q',args=#[p,q,p',q']/\ev st p=some (.o (.v (.int k x)))/\ev st q=some (.o (.v (.int k' y)))/\ev st p'=some (.o (.v (.int k'' z)))/\ev st q'=some (.o (.v (.int k3 u))):=by
     rcases args with ⟨_ | ⟨p,_ | ⟨q,_ | ⟨p',_ | ⟨q',_ | ⟨z,r⟩⟩⟩⟩⟩⟩
     ·simp at hargs
     ·simp at hargs
     ·simp at hargs
     ·simp at hargs
     ·exact ⟨p,q,p',q',rfl,by simpa using hargs⟩
     ·simp at hargs
    subst hp
    cases hd
    exact zaQ (hrun _ rfl (by simp only [List.map_toArray,zxT,zyt,zaN h hxp,zaN h hxq,zaN h hxp',zaN h hxq']; simp [Builtin.max_,Builtin.max2,SV.real,AV.real,mxI]))
   ·cases hd
  | _=>simp [dop] at hd
 all_goals (simp [dop] at hd)

end
abbrev zyw:=@List.cons_append
abbrev zyv:=@List.take_succ_cons
abbrev zyu:=@Array.getElem?_setIfInBounds_ne

def SS.put (st : SS) (d : Option Tmp) (x : SV) : SS:=match d with
 | some i=>{ st with tm:=(i,x)::st.tm }
 | none=>st
def SS.mem (st : SS) (d : Nat) (m : ME) : SS:={ st with me:=(d,m)::st.me }
def zby (N : Nat) : Option Tmp->Bool
 | some d=>Nat.blt d N
 | none=>true

theorem zqT (w : World) (o : Obj) : (w.alloc o).heap[w.heap.size]?=some o:=by
 show (w.heap.push o)[w.heap.size]?=some o;simp

section
variable {P : Program} {T : TT} {C : Cx} {E : Env} {st : SS} {a : Act} {w : World}

theorem SRE.put (h : SRE C E st a w) {d : Option Tmp} (hd : zby C.N d=true) (x : SV) : SRE C E (st.put d x) (a.put d (x.real E)) w:=by
 cases d with
 | none=>exact h
 | some i =>
  have hlt : i<C.N:=zxW hd;refine ⟨by simp [Act.put,h.size],h.defers,fun j sv hj=>?_,h.mem⟩;simp only [SS.put,zaB] at hj;simp only [Act.put];split at hj
  ·rename_i e; subst e; cases hj;rw [Array.getElem?_setIfInBounds_self,zxJ (by rw [h.size]; exact hlt)]
  ·rename_i e;rw [zyu (fun e'=>e e'.symm)];exact h.tm j sv hj

theorem SRE.new (h : SRE C E st a w) {d : Nat} (hd : zby C.N (some d)=true) (hf : st.has d=false) {cs : List AV} {t : TypeId} (hcs : ∀ k,st.has k=false->cs.any (AV.has k)=false) (x : SV) :
  SRE C (E.set d w.heap.size) ((st.mem d (.box cs t)).put (some d) x) (a.put (some d) (x.real (E.set d w.heap.size))) (w.alloc (.cells (cs.map (AV.real E)).toArray t)):=by
 have hbut:=Env.set_but E d w.heap.size;have hold : ∀ b,b<w.heap.size->(w.alloc (.cells (cs.map (AV.real E)).toArray t)).heap[b]?=w.heap[b]?:=fun b hb=>Below.heap_alloc _ _ _ hb
 have hne : ∀ {j m},lk j st.me=some m->j≠d:=fun hj=>(zxE hf hj).1
 have hβ : ∀ {j},j≠d->(E.set d w.heap.size).β j=E.β j:=fun hj=>(hbut _ hj).1
 have hsmall : ∀ {j m b},lk j st.me=some m->E.β j=some b->b<w.heap.size:=fun hj hb=>(h.mem.ge _ _ _ hj hb).2
 have h1 : SRE C (E.set d w.heap.size) (st.mem d (.box cs t)) a (w.alloc (.cells (cs.map (AV.real E)).toArray t)):=by
  refine ⟨h.size,h.defers.keep (zxu (Bel.new _ _)),fun j sv hj=>?_,⟨fun j m hj=>?_,fun j m b hj hb=>?_,fun j j' m m' b hj hj' hb hb'=>?_,fun R hR=>?_,?_,fun j b m hX hj=>?_⟩⟩
  ·rw [zxn hbut (zxC hf hj)]; exact h.tm j sv hj
  ·simp only [SS.mem,zaB] at hj;split at hj
   ·rename_i e; subst e; cases hj;refine ⟨w.heap.size,zxz _ _ _,?_⟩;rw [zxm hbut (hcs _ hf)];exact zqT _ _
   ·rename_i e;exact ((h.mem.ent j m hj).but hbut e (zxE hf hj).2).of_block (fun b hb=>by rw [hβ e] at hb; exact hold b (hsmall hj hb))
  ·simp only [SS.mem,zaB] at hj;rw [World.size_alloc];split at hj
   ·rename_i e; subst e; rw [zxz] at hb; cases hb; exact ⟨.inl h.mem.ext.size,by omega⟩
   ·rename_i e; rw [hβ e] at hb; have:=h.mem.ge _ _ _ hj hb; exact ⟨this.1,by omega⟩
  ·simp only [SS.mem,zaB] at hj hj';split at hj <;> split at hj'
   ·rename_i e e'; rw [e,e']
   ·rename_i e e'; subst e; rw [zxz] at hb; cases hb; rw [hβ e'] at hb'; have:=hsmall hj' hb'; omega
   ·rename_i e e'; subst e'; rw [zxz] at hb'; cases hb'; rw [hβ e] at hb; have:=hsmall hj hb; omega
   ·rename_i e e'; rw [hβ e] at hb; rw [hβ e'] at hb'; exact h.mem.inj _ _ _ _ _ hj hj' hb hb'
  ·obtain ⟨r1,r2,r3⟩:=h.mem.res R hR;refine ⟨r1,r1 _ _ r2 (fun b hb=>hold b (r3 b hb).1.lt),fun b hb=>⟨(r3 b hb).1.keep (hold b (r3 b hb).1.lt),fun j m hj hjb=>?_⟩⟩;simp only [SS.mem,zaB] at hj;split at hj
   ·rename_i e; subst e; rw [zxz] at hjb; cases hjb; have:=(r3 _ hb).1.lt; omega
   ·rename_i e; rw [hβ e] at hjb; exact (r3 b hb).2 j m hj hjb
  ·exact h.mem.ext.step (Bel.new _ _)
  ·have hdN : d<C.N:=zxW hd;simp only [SS.mem,zaB] at hj;rw [zxI (by omega)] at hj;rw [hβ (by omega)];exact h.mem.rig j b m hX hj
 exact h1.put hd x

theorem Does.step (h : SRE C E st a w) {o : Oper} {d : Nat} {m : Option ME} {x : SV} (hd : zby C.N o.dst=true) (hm : m.isSome=true->o.dst=some d) (hdo : Does P E st d a w o m x) :
  ∃ v w' E',(execOp a.eval o).run P w=.ok (.value v) w'/\SRE C E' ((match m with | none=>st | some m=>st.mem d m).put o.dst x) (a.put o.dst v) w'/\Bel w.heap.size w w':=by
 cases m with
 | none=>exact ⟨_,w,E,hdo.1,h.put hd x,Bel.refl _ _⟩
 | some m =>
  obtain ⟨cs,t,rfl,hf,hcs,hrun,hx⟩:=hdo;have e:=hm rfl;rw [e] at hd ⊢;exact ⟨_,_,_,hrun,h.new hd hf hcs x,Bel.new _ _⟩

theorem zaV.world (h : zaV C E st.me st.re w) {w' : World} (hb : Bel w.heap.size w w') : zaV C E st.me st.re w' where
 ent k m hk:=(h.ent k m hk).of_block (fun b hb'=>hb.block b (h.ge k m b hk hb').2)
 ge k m b hk hb':=⟨(h.ge k m b hk hb').1,zxw (h.ge k m b hk hb').2 hb.size⟩
 inj:=h.inj
 res R hR:=by
  obtain ⟨r1,r2,r3⟩:=h.res R hR;exact ⟨r1,r1 _ _ r2 (fun b hb'=>hb.block b (r3 b hb').1.lt),fun b hb'=>⟨(r3 b hb').1.keep (hb.block b (r3 b hb').1.lt),(r3 b hb').2⟩⟩
 ext:=h.ext.step hb
 rig:=h.rig
theorem SRE.world (h : SRE C E st a w) {w' : World} (hb : Bel w.heap.size w w') : SRE C E st a w':=⟨h.size,h.defers.keep (zxu hb),h.tm,h.mem.world hb⟩

def oneB : AV->Bool
 | .v (.agg _)=>false
 | .v (.tuple _)=>false
 | .tu _=>false
 | _=>true
theorem zqi {x : AV} (h : oneB x=true) (E : Env) : (x.real E).oneCell'=true:=by
 cases x with
 | v x=>cases x <;> first | (simp [oneB] at h; done) | rfl
 | tu xs=>simp [oneB] at h
 | _=>rfl

def setL (k : Nat) (m : ME) : List (Nat×ME)->List (Nat×ME)
 | []=>[]
 | (j,x)::r=>bif Nat.beq k j then (j,m)::r else (j,x)::setL k m r
theorem zdv (k : Nat) (m : ME) : ∀ (l : List (Nat×ME)) (j : Nat),lk j (setL k m l)=if j=k then (match lk k l with | some _=>some m | none=>none) else lk j l
 | [],j=>by simp [setL,lk]
 | (i,x)::r,j=>by
  simp only [setL];by_cases hi : k=i
  ·subst hi;simp only [zxM,cond_true,zaB];by_cases hj : j=k <;> simp [hj]
  ·rw [zaH.2 hi];simp only [cond_false,zaB,zdv k m r j];by_cases hj : j=k
   ·subst hj; simp [hi]
   ·simp [hj]

theorem zb9 {α : Type} : ∀ (off : Nat) (xs l : List α),off+xs.length<=l.length->putN off xs l=l.take off++xs++l.drop (off+xs.length)
 | off,[],l,h=>by
  have : putN off ([] : List α) l=l:=by cases off <;> cases l <;> rfl
  rw [this]; simp
 | 0,x::xs,[],h=>by simp at h
 | 0,x::xs,y::l,h=>by
  have:=zb9 0 xs l (by simpa using h);simp only [putN,this];simp [zyc]
 | n+1,x::xs,[],h=>by simp at h
 | n+1,x::xs,y::l,h=>by
  have:=zb9 n (x::xs) l (by simp at h ⊢; omega);simp only [putN,this];simp only [zyv,zyw,zxR]
  congr 2
  rw [show n+1+(xs.length+1)=(n+(xs.length+1))+1 by omega,List.drop_succ_cons]

theorem SRE.store (h : SRE C E st a w) {k : Nat} {m0 m' : ME} {t : TypeId} {b : Nat} {old cur : Array Value} (hm0 : lk k st.me=some m0) (hb : E.β k=some b) (hheap : w.heap[b]?=some (.cells old t (0,0)))
  (hok : (w.setRow b cur).heap[b]?=some (.cells cur t (0,0))->MEok E (w.setRow b cur) k m') :
  SRE C E { st with me:=setL k m' st.me } a (w.setRow b cur):=by
 have hnew : (w.setRow b cur).heap[b]?=some (.cells cur t (0,0)):=setRow_heap w b _ cur t _ hheap;have hoth : ∀ c,c≠b->(w.setRow b cur).heap[c]?=w.heap[c]?:=fun c hc=>by
  simp only [World.setRow,Array.getElem?_modify];rw [zxI (fun e=>hc e.symm)]
 have hsz : (w.setRow b cur).heap.size=w.heap.size:=by simp [World.setRow]
 refine ⟨h.size,h.defers.keep (fun c hc=>(hoth c (fun e=>by subst e; rw [hheap] at hc; cases hc)).trans hc),h.tm,⟨fun j m hj=>?_,fun j m c hj hc=>?_,fun j j' m m' c hj hj' hc hc'=>?_,fun R hR=>?_,?_,fun j c m hX hj=>?_⟩⟩
 ·simp only [zdv] at hj;split at hj
  ·rename_i e; subst e;rw [hm0] at hj
   cases hj
   exact hok hnew
  ·rename_i e;exact (h.mem.ent j m hj).of_block (fun c hc=>hoth c (fun e'=>e (h.mem.inj _ _ _ _ _ hj hm0 hc (by rw [e']; exact hb))))
 ·rw [hsz];simp only [zdv] at hj;split at hj
  ·rename_i e; subst e; exact h.mem.ge _ _ _ hm0 hc
  ·exact h.mem.ge _ _ _ hj hc
 ·simp only [zdv] at hj hj';split at hj <;> split at hj'
  ·rename_i e e'; rw [e,e']
  ·rename_i e e'; subst e; exact h.mem.inj _ _ _ _ _ hm0 hj' hc hc'
  ·rename_i e e'; subst e'; exact h.mem.inj _ _ _ _ _ hj hm0 hc hc'
  ·exact h.mem.inj _ _ _ _ _ hj hj' hc hc'
 ·obtain ⟨r1,r2,r3⟩:=h.mem.res R hR;refine ⟨r1,r1 _ _ r2 (fun c hc=>hoth c (fun e=>(r3 c hc).2 k m0 hm0 (by rw [e]; exact hb))),fun c hc=>⟨(r3 c hc).1.keep (hoth c (fun e=>(r3 c hc).2 k m0 hm0 (by rw [e]; exact hb))),fun j m hj hjc=>?_⟩⟩;simp only [zdv] at hj;split at hj
  ·rename_i e; subst e; exact (r3 c hc).2 _ _ hm0 hjc
  ·exact (r3 c hc).2 _ _ hj hjc
 ·have hge:=h.mem.ge _ _ _ hm0 hb;refine ⟨h.mem.ext.os,h.mem.ext.tape,h.mem.ext.output,by rw [hsz]; exact h.mem.ext.size,fun c hc hx=>?_,h.mem.ext.drawn⟩;rw [hoth c (fun e=>by subst e; rcases hge.1 with h1 | h1; omega; exact hx h1)];exact h.mem.ext.block c hc hx
 ·simp only [zdv] at hj;split at hj
  ·rename_i e; exact h.mem.rig j c m0 hX (by rw [e]; exact hm0)
  ·exact h.mem.rig j c m hX hj

def rmL (k : Nat) : List (Nat×ME)->List (Nat×ME)
 | []=>[]
 | (j,x)::r=>bif Nat.beq j k then rmL k r else (j,x)::rmL k r
theorem zhG (k : Nat) : ∀ (l : List (Nat×ME)) (j : Nat),lk j (rmL k l)=if j=k then none else lk j l
 | [],j=>by simp [rmL,lk]
 | (i,x)::r,j=>by
  simp only [rmL];by_cases hi : i=k
  ·subst hi;simp only [zxM,cond_true,zhG i r j,zaB];by_cases hj : j=i <;> simp [hj]
  ·rw [zaH.2 hi];simp only [cond_false,zaB,zhG k r j];by_cases hj : j=i
   ·subst hj; simp [hi]
   ·simp [hj]
def rmO (k : Option Nat) (l : List (Nat×ME)) : List (Nat×ME):=match k with
 | none=>l
 | some k=>rmL k l
theorem zcY {k : Option Nat} {l : List (Nat×ME)} {j : Nat} {m : ME} (h : lk j (rmO k l)=some m) : lk j l=some m/\k≠some j:=by
 cases k with
 | none=>exact ⟨h,by simp⟩
 | some k =>
  simp only [rmO,zhG] at h;split at h
  ·cases h
  ·rename_i e; exact ⟨h,fun h=>e (by cases h; rfl)⟩

def Env.setO (E : Env) (d : Nat) (b : Option Nat) (p : Nat×Nat) : Env:=⟨fun j=>if j=d then b else E.β j,fun j=>if j=d then p else E.ω j⟩
theorem Env.setO_but (E : Env) (d : Nat) (b : Option Nat) (p : Nat×Nat) : E.but (E.setO d b p) d:=fun j hj=>by simp [Env.setO,hj]

abbrev zyx:=@Env.setO_but
def zaz (E : Env) (d : Nat) : Value->Env
 | .slice (some a) n m=>E.setO d (some a.block) (n,m)
 | .slice none n m=>E.setO d none (n,m)
 | _=>E
theorem zcz {E : Env} {d : Nat} {w : World} {base t es n : Nat} {v : Value} {xs : List Value} (h : w.ownsRow base t es v n xs) :
  E.but (zaz E d v) d/\(AV.w d).real (zaz E d v)=v/\(∀ b,(zaz E d v).β d=some b↔v.ownBlock=some b):=by
 obtain ⟨_,⟨rfl,_⟩ | ⟨g,cap,cur,rfl,_⟩⟩:=h
 ·exact ⟨zyx _ _ _ _,by simp [zaz,AV.real,Env.setO],fun b=>by simp [zaz,Env.setO,Value.ownBlock]⟩
 ·exact ⟨zyx _ _ _ _,by simp [zaz,AV.real,Env.setO],fun b=>by simp [zaz,Env.setO,Value.ownBlock]⟩

theorem SRE.own (h : SRE C E st a w) {d : Nat} (hd : zby C.N (some d)=true) (hf : st.has d=false) {kk : Option Nat} {w' : World} {row : Option Nat} (hdr : w.drawn<=w'.drawn) (hg : w.grownBy w' row)
  (hrow : ∀ b,row=some b->∃ k m,kk=some k/\lk k st.me=some m/\E.β k=some b/\IsC w b) {v : Value} {t es n : Nat} {xs : List Value} (hown : w'.ownsRow 0 t es v n xs)
  (hblk : ∀ b,v.ownBlock=some b->w.heap.size<=b\/row=some b) :
  SRE C (zaz E d v) (({ st with me:=(d,.own t es n xs)::rmO kk st.me } : SS).put (some d) (.o (.w d))) (a.put (some d) v) w':=by
 obtain ⟨hbut,hreal,hβd⟩:=zcz (E:=E) (d:=d) hown;have hne : ∀ {j m},lk j st.me=some m->j≠d:=fun hj=>(zxE hf hj).1
 have hβ : ∀ {j},j≠d->(zaz E d v).β j=E.β j:=fun hj=>(hbut _ hj).1
 have hsmall : ∀ {j m b},lk j st.me=some m->E.β j=some b->b<w.heap.size:=fun hj hb=>(h.mem.ge _ _ _ hj hb).2
 have hblkold : ∀ b,b<w.heap.size->row≠some b->w'.heap[b]?=w.heap[b]?:=fun b hb hr=>hg.block b hb (fun e=>hr e.symm)
 have hkeep : ∀ {j m b},lk j st.me=some m->kk≠some j->E.β j=some b->row≠some b:=fun {j m b} hj hk hb hr=>by
  obtain ⟨k,m',h1,h2,h3,_⟩:=hrow b hr;exact hk (by rw [h1,h.mem.inj _ _ _ _ _ hj h2 hb h3])
 have hvlt : ∀ b,v.ownBlock=some b->b<w'.heap.size:=fun b hb=>by
  obtain ⟨_,⟨rfl,_⟩ | ⟨g,cap,cur,rfl,_,h4,_⟩⟩:=hown
  ·cases hb
  ·cases hb; exact (zxv.1 h4).1
 have h1 : SRE C (zaz E d v) { st with me:=(d,.own t es n xs)::rmO kk st.me } a w':=by
  refine ⟨h.size,h.defers.keep (fun c hc=>?_),fun j sv hj=>?_,⟨fun j m hj=>?_,fun j m b hj hb=>?_,fun j j' m m' b hj hj' hb hb'=>?_,fun R hR=>?_,?_,fun j b m hX hj=>?_⟩⟩
  ·refine (hblkold c (zxv.1 hc).1 (fun hr=>?_)).trans hc;obtain ⟨_,_,_,_,_,o,h5,h6⟩:=hrow c hr;rw [h5] at hc; cases hc; cases h6
  ·rw [zxn hbut (zxC hf hj)]; exact h.tm j sv hj
  ·simp only [zaB] at hj;split at hj
   ·rename_i e; subst e; cases hj;have : Value.slice (((zaz E j v).β j).map fun b=>⟨b,0,none⟩) ((zaz E j v).ω j).1 ((zaz E j v).ω j).2=v:=hreal;simp only [MEok,this];exact hown
   ·rename_i e;obtain ⟨hj,hk⟩:=zcY hj;refine ((h.mem.ent j m hj).but hbut e (zxE hf hj).2).of_block (fun b hb=>?_);rw [hβ e] at hb;exact hblkold b (hsmall hj hb) (hkeep hj hk hb)
  ·simp only [zaB] at hj;split at hj
   ·rename_i e; subst e;have hb':=(hβd b).1 hb;refine ⟨?_,hvlt b hb'⟩;rcases hblk b hb' with h2 | h2
    ·exact .inl (zxs h.mem.ext.size h2)
    ·obtain ⟨k,m',_,h4,h5,_⟩:=hrow b h2; exact (h.mem.ge _ _ _ h4 h5).1
   ·rename_i e;obtain ⟨hj,hk⟩:=zcY hj;rw [hβ e] at hb; have:=h.mem.ge _ _ _ hj hb; exact ⟨this.1,zxw this.2 hg.size⟩
  ·simp only [zaB] at hj hj';have hdiff : ∀ {i mm},i≠d->lk i (rmO kk st.me)=some mm->(zaz E d v).β i=some b->(zaz E d v).β d=some b->False:=fun {i mm} hi hl h1 h2=>by
    obtain ⟨hl,hk⟩:=zcY hl;rw [hβ hi] at h1;rcases hblk b ((hβd b).1 h2) with h3 | h3
    ·have:=hsmall hl h1; omega
    ·exact hkeep hl hk h1 h3
   split at hj <;> split at hj'
   ·rename_i e e'; rw [e,e']
   ·rename_i e e'; subst e; exact (hdiff e' hj' hb' hb).elim
   ·rename_i e e'; subst e'; exact (hdiff e hj hb hb').elim
   ·rename_i e e'; rw [hβ e] at hb; rw [hβ e'] at hb'; exact h.mem.inj _ _ _ _ _ (zcY hj).1 (zcY hj').1 hb hb'
  ·obtain ⟨r1,r2,r3⟩:=h.mem.res R hR;have hnr : ∀ b∈R.bs,row≠some b:=fun b hb hr=>by
    obtain ⟨k,m',_,h4,h5,_⟩:=hrow b hr;exact (r3 b hb).2 k m' h4 h5
   have hold : ∀ b∈R.bs,w'.heap[b]?=w.heap[b]?:=fun b hb=>hblkold b (r3 b hb).1.lt (hnr b hb)
   refine ⟨r1,r1 _ _ r2 hold,fun b hb=>⟨(r3 b hb).1.keep (hold b hb),fun j m hj hjb=>?_⟩⟩;simp only [zaB] at hj;split at hj
   ·rename_i e; subst e;rcases hblk b ((hβd b).1 hjb) with h3 | h3
    ·have:=(r3 _ hb).1.lt; omega
    ·exact hnr b hb h3
   ·rename_i e; rw [hβ e] at hjb; exact (r3 b hb).2 j m (zcY hj).1 hjb
  ·have hx:=h.mem.ext;refine ⟨hg.os.trans hx.os,hg.tape.trans hx.tape,hg.output.trans hx.output,zxs hx.size hg.size,fun b hb hnx=>?_,zxs hx.drawn hdr⟩;refine (hblkold b (zxw hb hx.size) (fun hr=>?_)).trans (hx.block b hb hnx);obtain ⟨k,m',_,h4,h5,_⟩:=hrow b hr;rcases (h.mem.ge _ _ _ h4 h5).1 with h6 | h6
   ·omega
   ·exact hnx h6
  ·have hdN : d<C.N:=zxW hd;simp only [zaB] at hj;rw [zxI (by omega)] at hj;rw [hβ (by omega)];exact h.mem.rig j b m hX (zcY hj).1
 have:=h1.put hd (.o (.w d));rw [show (SV.o (.w d)).real (zaz E d v)=v from hreal] at this;exact this

end
abbrev zyR:=@Nat.mul_one
abbrev zyQ:=@World.ownsRow_nil
abbrev zyP:=@List.append_nil
abbrev zyO:=@List.length_eq_zero_iff
abbrev zyN:=@Nat.mul_pos
abbrev zyM:=@Bool.not_eq_false'
abbrev zyL:=@Nat.mul_le_mul_right
abbrev zyK:=@List.mem_append
abbrev zyJ:=@List.take_of_length_le
abbrev zyI:=@List.length_take
abbrev zyH:=@List.take_take
abbrev zyG:=@List.take_append
abbrev zyF:=@List.append_assoc
abbrev zyE:=@List.size_toArray
abbrev zyD:=@Nat.zero_le
abbrev zyC:=@List.map_drop
abbrev zyB:=@List.map_take
abbrev zyA:=@List.length_map
abbrev zyz:=@List.getElem?_eq_some_iff
abbrev zyy:=@List.getElem?_eq_getElem

def FW (ro : Option Nat) : Fence:={ Fence.wide with round:=ro }

def Enters (P : Program) (f : FuncId) : Prop:=∀ (args : Array Value) (w : World),(callFunc f args).run P w=.ok (.enter f args) w
theorem zda {P : Program} {f : FuncId} {fn : Func} (hf : P.funcs[f]? = some fn) (hn : (fn.name == "runtime.NumGoroutine") = false) (hb : fn.body.isNone = false) : Enters P f := by
 intro args w;unfold callFunc;show ((Sem.program Sem.pure).bind _).run P w=_;simp only [Sem.bind,Sem.run,hf,hn,hb];rfl

def evs (st : SS) : List Operand->Option (List SV)
 | []=>some []
 | x::r=>match ev st x,evs st r with
  | some sv,some l=>some (sv::l)
  | _,_=>none
def app {α : Type} : List α->List α->List α
 | [],l=>l
 | x::r,l=>x::app r l
theorem za4 {α : Type} : ∀ (k l : List α),app k l=k++l
 | [],l=>rfl
 | x::r,l=>by simp [app,za4 r l]
def vsv : List Value->List SV
 | []=>[]
 | x::r=>.o (.v x)::vsv r
def csv : List CP->List SV
 | []=>[]
 | .e x::r=>.o (.v x)::csv r
 | .l k::r=>.o (.p k 0)::csv r
def zco (fv : Option SV) (args : List SV) : Option (FuncId×List SV):=match fv with
 | some (.o (.v (.func (.func g) first caps)))=>some (g,app (vsv first.toList) (app args (vsv caps.toList)))
 | some (.o (.clo g caps))=>some (g,app args (csv caps))
 | _=>none

structure PVC (c : Prop) (K : Prop) : Prop where
 c : c
 k : K
def andc : Option Prop->Prop->Prop
 | none,K=>K
 | some c,K=>PVC c K
theorem zgS {c : Option Prop} {K : Prop} (h : andc c K) : (∀ p,c=some p->p)/\K:=by
 cases c with
 | none=>exact ⟨fun _ h=>(by cases h),h⟩
 | some c=>exact ⟨fun p hp=>by cases hp; exact h.c,h.k⟩

def mkV (agg : Bool) (vs : List Value) : SV:=bif agg then .o (.v (.agg ⟨vs⟩)) else match vs with
 | [y]=>.o (.v y)
 | _=>.o (.v undef)
structure zan (st : SS) (n : Nat) (agg : Bool) (A : Option Addr) (K : SV->Prop) : Prop where
 out : ∃ vs : List Value,vs.length=n/\(agg=false->n=1)/\(∀ w,(∀ R∈st.re,R.φ w)->∃ b o,A=some ⟨b,o,none⟩/\∀ j v,vs[j]?=some v->w.cell? ⟨b,o+j,none⟩=some v)/\K (mkV agg vs)
structure zbi (cs : List Value) (off n : Nat) (agg : Bool) (K : SV->Prop) : Prop where
 pos : 0<n
 out : ∃ l : List Value,l.length=n/\(agg=false->n=1)/\(∀ j x,l[j]?=some x->cs[off+j]?=some x)/\K (mkV agg l)
structure zae (P : Program) (C : Cx) (g : FuncId) (args : List SV) (st : SS) (K : SV->SS->Prop) : Prop where
 enters : Enters P g
 out : ∀ E w,zaV C E st.me st.re w->Calls P g (args.map (SV.real E)).toArray w fun e w'=>∃ E' st' x,e=.returned (x.real E')/\zaV C E' st'.me st'.re w'/\KD w w' /\
  (∀ i sv,lk i st'.tm=some sv->∃ sv0,lk i st.tm=some sv0/\sv.real E'=sv0.real E)/\K x st'

structure zdW (P : Program) (C : Cx) (l : Nat) (args : List SV) (st : SS) (K : SV->SS->Prop) : Prop where
 out : ∀ E w,zaV C E st.me st.re w->∀ ro m,YieldAt (FW ro) m P l (args.map (SV.real E)).toArray w fun e w'=>∃ E' st' x,e=.returned (x.real E')/\zaV C E' st'.me st'.re w'/\KD w w' /\
  (∀ i sv,lk i st'.tm=some sv->∃ sv0,lk i st.tm=some sv0/\sv.real E'=sv0.real E)/\K x st'
def zlZ : Option SV->Option Nat
 | some (.o (.v (.func (.yield l) first _)))=>match first.toList with
  | []=>some l
  | _=>none
 | _=>none

def zl4 (st : SS) (k : Nat) : Option (List Value):=match lk k st.me with
 | some (.sym cs _)=>some cs
 | some (.own _ _ _ xs)=>some xs
 | _=>none

def zdy (T : TT) (st : SS) (t : TypeId) (x : Operand) (K : SV->Prop) : Prop:=match lk t T,ev st x with
 | some e,some (.o (.v (.pointer A)))=>zan st e.size (zbn e.desc) A K
 | some e,some (.o (.p k off))=>match zl4 st k with
  | some cs=>zbi cs off e.size (zbn e.desc) K
  | none=>False
 | _,_=>False
def zdL (T : TT) (st : SS) (t : TypeId) (x y : Operand) (K : SS->Prop) : Prop:=match lk t T,ev st x,ev st y with
 | some e,some (.o (.p k off)),some sv=>bif Nat.beq sv.cells.length e.size&&sv.cells.all oneB then
  (match lk k st.me with
  | some (.box cs ty)=>bif Nat.ble (off+e.size) cs.length then K { st with me:=setL k (.box (putN off sv.cells cs) ty) st.me } else False
  | some (.sym cs ty)=>match allV sv.cells with
   | some vs=>PVC (off+e.size<=cs.length) (K { st with me:=setL k (.sym (putN off vs cs) ty) st.me })
   | none=>False
  | some (.own ty es n xs)=>match allV sv.cells with
   | some vs=>PVC (off+e.size<=xs.length/\0<e.size) (K { st with me:=setL k (.own ty es n (putN off vs xs)) st.me })
   | none=>False
  | none=>False) else False
 | _,_,_=>False
def SS.fresh (st : SS) (d : Nat) (kk : Option Nat) (t es n : Nat) (xs : List Value) : SS:=({ st with me:=(d,.own t es n xs)::rmO kk st.me } : SS).put (some d) (.o (.w d))
def zgl (T : TT) (st : SS) (d : Nat) (t : TypeId) (l c : Operand) (K : SS->Prop) : Prop:=match lk t T,toI (ev st l),toI (ev st c) with
 | some e,some l,some c=>match e.desc with
  | .slice el=>match lk el T with
   | some ee=>bif st.has d||!(Nat.beq ee.zero.cells.toList.length ee.size) then False else
    PVC (0<=l/\l<=c/\(ee.bytes : Int)*c<=281474976710656/\c<=9223372036854775807) (K (st.fresh d none el ee.size l.toNat (repl l.toNat ee.zero.cells.toList)))
   | none=>False
  | _=>False
 | _,_,_=>False
structure ze1 (st : SS) (A : Option Addr) (n : Nat) (K : List Value->Prop) : Prop where
 out : ∃ vs : List Value,vs.length=n/\(∀ v∈vs,v.oneCell'=true)/\(∀ w,(∀ R∈st.re,R.φ w)->(A=none/\n=0)\/∃ a,A=some a/\∀ j v,vs[j]?=some v->w.cell? (a.add j)=some v)/\K vs
def boxV (st : SS) (k : Nat) : Option (List Value):=match lk k st.me with
 | some (.box cs _)=>allV cs
 | some (.sym cs _)=>some cs
 | _=>none
def oneV : Value->Bool
 | .agg _=>false
 | .tuple _=>false
 | _=>true
def zlk (st : SS) (es : Nat) (y : Operand) (fin : Nat->List Value->Prop) : Prop:=match ev st y with
 | some (.o (.s k2 off m _))=>match boxV st k2 with
  | some cs=>match zfO (m*es) (zgO off cs) with
   | some vs=>bif vs.all oneV then fin m vs else False
   | none=>False
  | none=>False
 | some (.o (.v (.slice A m _)))=>ze1 st A (m*es) (fun vs=>fin m vs)
 | some (.o (.w k2))=>match lk k2 st.me with
  | some (.own _ es2 m vs)=>bif Nat.beq es2 es then PVC (∀ v∈vs,v.oneCell'=true) (fin m vs) else False
  | _=>False
 | _=>False
def zhB (T : TT) (st : SS) (d : Nat) (t : TypeId) (x y : Operand) (K : SS->Prop) : Prop:=match lk t T with
 | some e=>match e.desc with
  | .slice el=>match lk el T with
   | some ee =>
    let go (kk : Option Nat) (n : Nat) (xs : List Value) : Prop:=zlk st ee.size y (fun m vs=>PVC (n+m<=9223372036854775807/\(n+m)*ee.bytes<=140737488355328) (K (st.fresh d kk el ee.size (n+m) (app xs vs))))
    bif st.has d||!(Nat.beq ee.zero.cells.toList.length ee.size)||Nat.beq ee.size 0 then False else
    (match ev st x with
    | some (.o (.w k))=>match lk k st.me with
     | some (.own t' es n xs)=>bif Nat.beq t' el&&Nat.beq es ee.size then go (some k) n xs else False
     | _=>False
    | some (.o (.v (.slice none 0 0)))=>go none 0 []
    | some (.o (.v (.slice (some b) n c)))=>ze1 st (some b) (n*ee.size) (fun xs=>zlk st ee.size y (fun m vs=>PVC (n<=c/\c<n+m/\n+m<=9223372036854775807/\(n+m)*ee.bytes<=140737488355328) (K (st.fresh d none el ee.size (n+m) (app xs vs)))))
    | _=>False)
   | none=>False
  | _=>False
 | none=>False
structure zgI (C : Cx) (st : SS) (p : SS->Prop) : Prop where
 out : ∀ E a w,SRE C E st a w->∃ E' t,p t/\SRE C E' t a w
def zvD (st : SS) (x y : Operand) : Bool:=match ev st x with
 | some (.o (.s _ _ _ _))=>true
 | _=>match ev st y with
  | some (.o (.s k _ _ _))=>(boxV st k).isNone
  | _=>false
def optI (st : SS) (x : Option Operand) (d : Int) : Option Int:=match x with
 | some x=>toI (ev st x)
 | none=>some d
def zeG (T : TT) (st : SS) (t : TypeId) (x : Operand) (lo hi mx : Option Operand) (K : SV->Prop) : Prop:=match lk t T,ev st x with
 | some e,some (.o (.p k off))=>match e.desc,mx with
  | .array n el,none=>match lk el T,optI st lo 0,optI st hi n with
   | some ee,some l,some h=>bif ze0 st k then PVC (0<=l/\l<=h/\h<=n) (K (.o (.s k (bif Nat.beq n l.toNat then off else off+l.toNat*ee.size) (h.toNat-l.toNat) (n-l.toNat)))) else False
   | _,_,_=>False
  | _,_=>False
 | some e,some (.o (.v (.slice A n c)))=>match e.desc,mx with
  | .slice el,none=>match lk el T,optI st lo 0,optI st hi n with
   | some ee,some l,some h=>PVC (0<=l/\l<=h/\h<=c) (K (.o (.v (.slice (if c=l.toNat then A else A.map (·.add (l.toNat*ee.size))) (h.toNat-l.toNat) (c-l.toNat)))))
   | _,_,_=>False
  | .slice el,some mm=>match lk el T,lo,hi with
   | some _,none,some hh=>match toI (ev st hh),toI (ev st mm) with
    | some h,some m=>PVC (0<=h/\h<=m/\m<=c) (K (.o (.v (.slice A h.toNat m.toNat))))
    | _,_=>False
   | _,_,_=>False
  | _,_=>False
 | some e,some (.o (.s k off n c))=>match e.desc,mx with
  | .slice el,none=>match lk el T,optI st lo 0,optI st hi n with
   | some ee,some l,some h=>PVC (0<=l/\l<=h/\h<=c/\l<c) (K (.o (.s k (off+l.toNat*ee.size) (h.toNat-l.toNat) (c-l.toNat))))
   | _,_,_=>False
  | _,_=>False
 | _,_=>False
def bytV (l : List UInt8) : List Value:=l.map fun b=>.int .u8 (b.toNat : Int)
structure zpj (cs : List Value) (n : Nat) (K : SV->Prop) : Prop where
 out : ∃ l : List UInt8,l.length=n/\cs.take n=bytV l/\K (.o (.v (.string ⟨l.toArray⟩)))
def zgj (T : TT) (st : SS) (s t : TypeId) (x : Operand) (K : SV->Prop) : Prop:=match lk s T,lk t T with
 | some es,some e=>match es.desc,e.desc with
  | .slice el,.string=>match lk el T with
   | some ee=>match ee.desc with
    | .int .u8=>match ev st x with
     | some (.o (.w k))=>match lk k st.me with
      | some (.own _ es n xs)=>bif Nat.beq es 1 then zpj xs n K else False
      | _=>False
     | some (.o (.s k off n _))=>match boxV st k with
      | some cs=>zpj (cs.drop off) n K
      | none=>False
     | _=>False
    | _=>False
   | none=>False
  | _,_=>False
 | _,_=>False
def ziW (T : TT) (st : SS) (t : TypeId) (x : Operand) (K : SS->Prop) : Prop:=match lk t T,ev st x with
 | some e,some (.o (.s k off n _))=>match e.desc with
  | .slice el=>match lk el T with
   | some ee=>match lk k st.me with
    | some (.sym cs ty)=>PVC (0<n/\ee.zero.cells.toList.length=ee.size/\off+n*ee.size<=cs.length/\∀ v∈ee.zero.cells.toList,v.oneCell'=true) (K { st with me:=setL k (.sym (putN off (repl n ee.zero.cells.toList) cs) ty) st.me })
    | _=>False
   | none=>False
  | _=>False
 | _,_=>False
def zfc (P : Program) (C : Cx) (st : SS) (f : Operand) (args : Array Operand) (K : SV->SS->Prop) : Prop:=match evs st args.toList with
 | some l=>match zco (ev st f) l with
  | some (g,l')=>zae P C g l' st K
  | none=>match zlZ (ev st f) with
   | some k=>zdW P C k l st K
   | none=>False
 | none=>False

structure OpVC (P : Program) (C : Cx) (o : Oper) (st : SS) (K : SS->Prop) : Prop where
 out : ∀ E a w,SRE C E st a w->∃ st' w' E' v,K st'/\SRE C E' st' (a.put o.dst v) w'/\((execOp a.eval o).run P w=.ok (.value v) w'\/(o.dst=none/\(execOp a.eval o).run P w=.ok .skip w'))
def sopX (P : Program) (T : TT) (C : Cx) (o : Oper) (st : SS) (K : SS->Prop) : Prop :=
 match o.op with
 | .makeMap _ _=>OpVC P C o st K
 | .mapUpdate _ _ _ _=>OpVC P C o st K
 | .lookup _ _ _ _=>OpVC P C o st K
 | .load t x=>zdy T st t x (fun v=>K (st.put o.dst v))
 | .store t x y=>match o.dst with
  | none=>zdL T st t x y K
  | some _=>False
 | .makeSlice t l c=>match o.dst with
  | some d=>zgl T st d t l c K
  | none=>False
 | .slice t x lo hi mx=>zeG T st t x lo hi mx (fun v=>K (st.put o.dst v))
 | .convert s t x=>zgj T st s t x (fun v=>K (st.put o.dst v))
 | .call ⟨.builtin .append,args,ts⟩=>match o.dst,args.toList,ts.toList with
  | some d,[x,y],[t,t']=>bif Nat.beq t t' then (bif zvD st x y then zgI C st (fun s=>zhB T s d t x y K) else zhB T st d t x y K) else False
  | _,_,_=>False
 | .call ⟨.value f,args,_⟩=>zfc P C st f args (fun x st'=>K (st'.put o.dst x))
 | .call ⟨.builtin .clear,args,ts⟩=>match args.toList,ts.toList with
  | [x],[t]=>ziW T st t x (fun st'=>K (st'.put o.dst (.o (.v (.tuple #[])))))
  | _,_=>False
 | _=>False

def sop (P : Program) (T : TT) (C : Cx) (o : Oper) (st : SS) (K : SS->Prop) : Prop :=
 bif zby C.N o.dst then
 (match dop T st (o.dst.getD 0) o.op with
 | some (c,none,x)=>andc c (K (st.put o.dst x))
 | some (c,some m,x)=>(match o.dst with
  | some d=>andc c (K ((st.mem d m).put (some d) x))
  | none=>False)
 | none=>sopX P T C o st K) else False

section
variable {P : Program} {T : TT} {C : Cx} {E : Env} {st : SS} {a : Act} {w : World} {ro : Option Nat} {n : Nat}

theorem zbr {o : Oper} {next : Act->World->Prop} {Q : Exit->Act->World->Prop} (hd : ∀ c,o.op≠.defer c) (h : o.uponIn (FW ro) n P a next Q ((execOp a.eval o).run P w)) : o.wpIn (FW ro) n P a w next Q:=by
 refine ⟨fun _ _=>trivial,?_⟩;rw [show (FW ro).round=ro from rfl,Oper.semAt_eq ro a.eval o hd];exact h

theorem zqG (h : SRE C E st a w) : ∀ {l : List Operand} {vs : List SV},evs st l=some vs->l.map a.eval=vs.map (SV.real E)
 | [],vs,hl=>by simp only [evs,zxq] at hl; subst hl; rfl
 | x::r,vs,hl=>by
  simp only [evs] at hl;split at hl
  ·rename_i sv l hx hr; cases hl; simp [zaN h hx,zqG h hr]
  ·cases hl

theorem zbk (E : Env) : ∀ l : List Value,(vsv l).map (SV.real E)=l
 | []=>rfl
 | x::r=>by simp [vsv,SV.real,AV.real,zbk E r]
theorem zjC (E : Env) : ∀ l : List CP,(csv l).map (SV.real E)=l.map (CP.real E)
 | []=>rfl
 | .e x::r=>by simp [csv,SV.real,AV.real,CP.real,zjC E r]
 | .l k::r=>by simp [csv,SV.real,AV.real,CP.real,zjC E r]

theorem zrB (h : SRE C E st a w) {f : Operand} {args : Array Operand} {ts : Array TypeId} {l : List SV} {k : Nat} (hl : evs st args.toList=some l) (hc : zlZ (ev st f)=some k) (o : Oper) (ho : o.op=.call ⟨.value f,args,ts⟩) :
  (execOp a.eval o).run P w=(Instr.yield k (l.map (SV.real E)).toArray).run P w:=by
 obtain ⟨dst,op,type,pos,after,guard⟩:=o;simp only at ho;subst ho;have hargs : args.map a.eval=(l.map (SV.real E)).toArray:=by
  rw [<-zqG h hl]; apply zyh; simp
 show (do let d <-resolve a.eval ⟨.value f,args,ts⟩ type; invoke d.target d.args : Sem Next).run P w=_;rw [zxy];unfold zlZ at hc;split at hc
 ·rename_i l' first caps hf
  split at hc
  ·rename_i hfirst
   cases hc
   have hev:=zaN h hf;simp only [SV.real,AV.real] at hev;have hr : (resolve a.eval ⟨.value f,args,ts⟩ type).run P w=.ok { target:=.fn (.yield k) caps,args:=first++args.map a.eval } w:=by
    unfold resolve;simp only [hev];rfl
   rw [hr];simp only [Result.andThen,invoke];have : first=#[]:=zyh (by simpa using hfirst)
   rw [this,hargs]; simp
  ·cases hc
 ·cases hc
theorem zpe (h : SRE C E st a w) {f : Operand} {args : Array Operand} {ts : Array TypeId} {l l' : List SV} {g : FuncId} (hl : evs st args.toList=some l) (hc : zco (ev st f) l=some (g,l')) (hE : Enters P g) (o : Oper) (ho : o.op=.call ⟨.value f,args,ts⟩) :
  (execOp a.eval o).run P w=.ok (.enter g (l'.map (SV.real E)).toArray) w:=by
 obtain ⟨dst,op,type,pos,after,guard⟩:=o;simp only at ho;subst ho;have hargs : args.map a.eval=(l.map (SV.real E)).toArray:=by
  rw [<-zqG h hl]; apply zyh; simp
 show (do let d <-resolve a.eval ⟨.value f,args,ts⟩ type; invoke d.target d.args : Sem Next).run P w=_;rw [zxy];unfold zco at hc;split at hc
 ·rename_i g' first caps hf
  cases hc
  have hev:=zaN h hf;simp only [SV.real,AV.real] at hev;have hr : (resolve a.eval ⟨.value f,args,ts⟩ type).run P w=.ok { target:=.fn (.func g) caps,args:=first++args.map a.eval } w:=by
   unfold resolve;simp only [hev];rfl
  rw [hr];simp only [Result.andThen,invoke];rw [hE]
  congr 2
  rw [hargs];apply zyh;simp [za4,zbk]
 ·rename_i g' caps hf
  cases hc
  have hev:=zaN h hf;simp only [SV.real,AV.real] at hev;have hr : (resolve a.eval ⟨.value f,args,ts⟩ type).run P w=.ok { target:=.fn (.func g) (caps.map (CP.real E)).toArray,args:=#[]++args.map a.eval } w:=by
   unfold resolve;simp only [hev];rfl
  rw [hr];simp only [Result.andThen,invoke];rw [hE]
  congr 2
  rw [hargs];apply zyh;simp [za4,zjC]
 ·cases hc

theorem zsg (E : Env) {agg : Bool} {vs : List Value} (h : agg=false->vs.length=1) : (mkV agg vs).real E=if agg then .agg vs.toArray else vs.getD 0 undef:=by
 cases agg with
 | true=>rfl
 | false =>
  have:=h rfl;rcases vs with _ | ⟨y,_ | ⟨z,r⟩⟩
  ·simp at this
  ·rfl
  ·simp at this

theorem zaV.row (h : zaV C E st.me st.re w) {k : Nat} {cs : List Value} (hr : zl4 st k=some cs) (hne : 0<cs.length) : ∃ b,E.β k=some b/\∀ j x,cs[j]?=some x->w.cell? ⟨b,j,none⟩=some x:=by
 unfold zl4 at hr;split at hr
 ·rename_i cs' t hm
  cases hr
  obtain ⟨b,hb,hcells⟩:=h.ent _ _ hm;exact ⟨b,hb,fun j x hj=>by rw [zcg hcells]; simpa using hj⟩
 ·rename_i t es n xs hm
  cases hr
  obtain ⟨hl,hn,⟨_,_,h0⟩ | ⟨b,cur,hb,hcells,_,_,_,htake⟩⟩:=zbH (h.ent _ _ hm)
  ·rw [hl,h0] at hne; simp at hne
  ·refine ⟨b,hb,fun j x hj=>?_⟩;rw [zcg hcells];rw [<-htake,zx7] at hj;split at hj
   ·simpa using hj
   ·cases hj
 ·cases hr

theorem zjp (hT : zaY P T) (h : SRE C E st a w) {o : Oper} {t : TypeId} {x : Operand} (ho : o.op=.load t x) {K : SV->Prop} (hs : zdy T st t x K) :
  ∃ v : SV,K v/\(execOp a.eval o).run P w=.ok (.value (v.real E)) w:=by
 have key : ∀ {e : TyE} {b off : Nat} {vs : List Value},lk t T=some e->a.eval x=.pointer (some ⟨b,off,none⟩)->vs.length=e.size->(zbn e.desc=false->e.size=1)->(∀ j v,vs[j]?=some v->w.cell? ⟨b,off+j,none⟩=some v) ->
   (execOp a.eval o).run P w=.ok (.value ((mkV (zbn e.desc) vs).real E)) w:=by
  intro e b off vs he hev hlen h1 hc;have hrun : (Instr.loadAt t (a.eval x)).run P w=.ok ((mkV (zbn e.desc) vs).real E) w:=by
   rw [hev,zsg E (fun hh=>by rw [hlen]; exact h1 hh)];unfold Instr.loadAt Instr.sureAddr;rw [zxy];simp only [zxZ,Result.andThen];rw [zfe (hT _ _ he).1 hlen hc];by_cases hg : zbn e.desc=true
   ·simp [hg]
   ·rw [zxI hg,zxI hg];have:=h1 (by simpa using hg);rcases vs with _ | ⟨y,_ | ⟨z,r⟩⟩
    ·simp at hlen; omega
    ·rfl
    ·simp at hlen; omega
  obtain ⟨dst,op,type,pos,after,guard⟩:=o;simp only at ho;subst ho;exact zbe rfl hrun
 unfold zdy at hs;split at hs
 ·rename_i e A he hx;obtain ⟨vs,hlen,h1,hw,hk⟩:=hs.out;obtain ⟨b,off,rfl,hc⟩:=hw w (fun R hR=>(h.mem.res R hR).2.1);exact ⟨_,hk,key he (zaN h hx) hlen h1 hc⟩
 ·rename_i e k off he hx;split at hs
  ·rename_i cs hr;obtain ⟨hpos,l,hlen,h1,hcs,hk⟩:=hs;have hne : 0<cs.length:=by
    have h0 : l[0]?=some (l[0]'(by omega)):=zyy (by omega);have:=(zyz.1 (hcs 0 _ h0)).1;omega
   obtain ⟨b,hb,hcells⟩:=h.mem.row hr hne;exact ⟨_,hk,key he (by rw [zaN h hx]; simp [SV.real,AV.real,hb]) hlen h1 (fun j v hj=>hcells _ _ (hcs j v hj))⟩
  ·exact hs.elim
 ·exact hs.elim

theorem ziT {E : Env} {cs : List AV} {vs : List Value} (h : allV cs=some vs) : cs.map (AV.real E)=vs/\cs.length=vs.length:=by
 have:=zbq E h;exact ⟨this,by rw [<-this,zyA]⟩

theorem ziw (hT : zaY P T) (h : SRE C E st a w) {o : Oper} {t : TypeId} {x y : Operand} (ho : o.op=.store t x y) {K : SS->Prop} (hs : zdL T st t x y K) :
   ∃ st' w',K st'/\SRE C E st' a w'/\(execOp a.eval o).run P w=.ok .skip w':=by
 unfold zdL at hs;split at hs
 · rename_i e k off sv he hx hy;by_cases hb : (Nat.beq sv.cells.length e.size&&sv.cells.all oneB)=true
   · rw [hb] at hs;simp only [cond_true] at hs;simp only [zxV,zx2] at hb;have hlen:=zxj hb.1;have hgo : ∀ {b : Nat} {old : List Value} {ty : TypeId},E.β k=some b->w.heap[b]?=some (.cells old.toArray ty (0,0))->off+e.size<=old.length ->
         (execOp a.eval o).run P w=.ok .skip (w.setRow b (putN off (sv.cells.map (AV.real E)) old).toArray):=by
       intro b old ty hb' hheap hfit;have hev : a.eval x=.pointer (some ⟨b,off,none⟩):=by rw [zaN h hx]; simp [SV.real,AV.real,hb']
       have hcell:=SV.cells_real E sv;have hsz : (sv.real E).cells.size=e.size:=by rw [<-zxX,hcell,zyA,hlen]
       have hst:=run_storeCells_at (P:=P) b off ty (sv.cells.map (AV.real E)) 0 _ w hheap (by simp [hlen]; exact hfit) (fun v hv=>by
         obtain ⟨z,hz,rfl⟩:=zx1.1 hv;exact zqi (hb.2 z hz) E)
       have hrow : old.toArray.toList.take (off+0)++sv.cells.map (AV.real E)++old.toArray.toList.drop (off+0+(sv.cells.map (AV.real E)).length)=putN off (sv.cells.map (AV.real E)) old:=by
         rw [zb9 _ _ _ (by rw [zyA]; omega)];simp
       rw [hrow] at hst;have hrun : (Instr.storeAt t (.pointer (some ⟨b,off,none⟩)) (sv.real E)).run P w=.ok () (w.setRow b (putN off (sv.cells.map (AV.real E)) old).toArray):=by
         unfold Instr.storeAt Instr.sureAddr;rw [zxy];simp only [zxZ,Result.andThen];unfold storeVar;rw [zxy,(hT _ _ he).1.run_size];simp only [Result.andThen];rw [zxI (by omega),hcell];exact hst
       obtain ⟨dst,op,type,pos,after,guard⟩:=o;simp only at ho;subst ho;show (do Instr.storeAt t (a.eval x) (a.eval y); pure .skip : Sem Next).run P w=_;rw [zxy,hev,zaN h hy,hrun];rfl
     have hputlen : ∀ {α : Type} (xs l : List α),off+xs.length<=l.length->(putN off xs l).length=l.length:=fun xs l hl=>by
       rw [zb9 _ _ _ hl]; simp; omega
     split at hs
     · rename_i cs ty hm;by_cases hf : Nat.ble (off+e.size) cs.length=true
       · rw [hf] at hs;have hf':=zxW hf;obtain ⟨b,hb',hheap⟩:=h.mem.ent _ _ hm;refine ⟨_,_,hs,h.store hm hb' hheap (cur:=(putN off (sv.cells.map (AV.real E)) (cs.map (AV.real E))).toArray) (fun hn=>⟨b,hb',?_⟩),hgo hb' hheap (by simpa using hf')⟩;rw [hn,zb9 _ _ _ (by rw [zyA,zyA]; omega),zb9 _ _ _ (by omega)];simp [zyB,zyC]
       · rw [zxG] at hf; rw [hf] at hs; exact hs.elim
     · rename_i cs ty hm;split at hs
       · rename_i vs hvs;obtain ⟨hv1,hv2⟩:=ziT (E:=E) hvs;obtain ⟨b,hb',hheap⟩:=h.mem.ent _ _ hm;have:=hgo hb' hheap hs.c;rw [hv1] at this;exact ⟨_,_,hs.k,h.store hm hb' hheap (fun hn=>⟨b,hb',hn⟩),this⟩
       · exact hs.elim
     · rename_i ty es n xs hm;split at hs
       · rename_i vs hvs;obtain ⟨hv1,hv2⟩:=ziT (E:=E) hvs;obtain ⟨hfit,hpos⟩:=hs.c;have hent:=h.mem.ent _ _ hm;obtain ⟨hl,hn,⟨_,_,h0⟩ | ⟨b,cur,hb',hheap,h4,h5,h6,htake⟩⟩:=zbH hent
         · rw [hl,h0] at hfit; omega
         · have hcl : xs.length<=cur.toList.length:=by rw [<-htake]; simp; omega
           have:=hgo (old:=cur.toList) hb' hheap (by omega);rw [hv1] at this;refine ⟨_,_,hs.k,h.store hm hb' hheap (cur:=(putN off vs cur.toList).toArray) (fun hnew=>?_),this⟩;have hω : (AV.w k).real E=.slice (some ⟨b,0,none⟩) n (E.ω k).2:=by simp [AV.real,hb',hn]
           show World.ownsRow _ 0 ty es ((AV.w k).real E) n _;rw [hω];have hlx : off+vs.length<=xs.length:=by omega
           refine ⟨by rw [hputlen _ _ hlx]; exact hl,.inr ⟨b,(E.ω k).2,_,rfl,zyD _,hnew,h4,h5,?_,?_⟩⟩
           · rw [zyE,hputlen _ _ (by omega)]; simpa using h6
           · show (putN off vs cur.toList).take (n*es)=_;rw [zb9 _ _ _ (show off+vs.length<=cur.toList.length by omega),zb9 _ _ _ hlx,<-htake];have hle : off+vs.length<=n*es:=by omega
             rw [zyF,zyG,zyH,zyI,zyG];have h7 : min off cur.toList.length=off:=by omega
             rw [h7,zyF]
             congr 1
             · rw [zyH]; congr 1; omega
             · congr 1
               · rw [zyJ (by omega)]
               · rw [List.drop_take]; congr 1; omega
       · exact hs.elim
     · exact hs.elim
   · rw [zxG] at hb; rw [hb] at hs; exact hs.elim
 · exact hs.elim

theorem znB {α : Type} {v : α} {l : List α} : ∀ {n : Nat},v∈repl n l->v∈l
 | 0,h=>by cases h
 | n+1,h=>(zyK.1 h).elim (fun h=>h) znB
theorem zit (z : Array Value) (n : Nat) : (Builtin.zeroCells z n).toList=repl n z.toList:=by
 apply zyj;intro j;by_cases hj : j<n*z.size
 ·rw [zgR n z.toList j (by simpa using hj)];simp only [Builtin.zeroCells,zx6,Array.toList_range,zx4,zyk hj,zxp];have hz : 0<z.size:=by rcases zyf z.size with h | h; rw [h] at hj; omega; exact h
  have hlt : j%z.size<z.size:=zyl _ hz;rw [getElem!_pos z _ hlt];simp [hlt]
 ·rw [zym (by simp [Builtin.zeroCells]; omega),zym (by rw [zbP]; simpa using Nat.not_lt.1 hj)]
theorem ziu (z : Array Value) (n m : Nat) (hnm : n<=m) : (madeCells z (m*z.size)).toList.take (n*z.size)=repl n z.toList:=by
 apply zyj;intro j;rw [zx7];have hle : n*z.size<=m*z.size:=zyL _ hnm;split
 ·rename_i hj;rw [zgR n z.toList j (by simpa using hj)];simp only [madeCells,zx6,Array.toList_range,zx4,zyk (show j<m*z.size by omega),zxp];have hz : 0<z.size:=by rcases zyf z.size with h | h; rw [h] at hj; omega; exact h
  have hlt : j%z.size<z.size:=zyl _ hz;rw [getElem!_pos z _ hlt];simp [hlt]
 ·rename_i hj
  symm
  rw [zym];rw [zbP]; simpa using hj

theorem TyOk.parts {t : TypeId} {e : TyE} (h : TyOk P t e) : ∃ i : TypeInfo,P.info? t=some i/\i.size=e.size/\i.bytes=e.bytes/\i.zero=some e.zero:=by
 have h1:=h.info
 cases hi : P.info? t with
 | none=>rw [hi] at h1; cases h1
 | some i =>
  rw [hi] at h1;simp only [zxp,zxq,zxx] at h1;exact ⟨i,rfl,h1.1,h1.2.1,h1.2.2⟩

theorem zjB (hT : zaY P T) (h : SRE C E st a w) {o : Oper} {t : TypeId} {l c : Operand} {d : Nat} (ho : o.op=.makeSlice t l c) (hd : zby C.N (some d)=true) {K : SS->Prop} (hs : zgl T st d t l c K) :
  ∃ st' w' E' v,K st'/\SRE C E' st' (a.put (some d) v) w'/\(execOp a.eval o).run P w=.ok (.value v) w':=by
 unfold zgl at hs;split at hs
 ·rename_i e l' c' he hl hc;obtain ⟨kl,hl⟩:=zd3 h hl;obtain ⟨kc,hc⟩:=zd3 h hc;split at hs
  ·rename_i el hdesc;split at hs
   ·rename_i ee hee
    cases hf : (st.has d||!(Nat.beq ee.zero.cells.toList.length ee.size)) with
    | true=>rw [hf] at hs; exact hs.elim
    | false =>
     rw [hf] at hs;simp only [zxD,zyM] at hf;obtain ⟨hf,hz⟩:=hf;have hz:=zxj hz;obtain ⟨⟨h0,h1,h2,h3⟩,hk⟩:=hs;obtain ⟨i,hi,hi1,hi2,hi3⟩:=(hT _ _ hee).1.parts;have hund:=(hT _ _ he).1.und;rw [hdesc] at hund;have hrun:=run_make (P:=P) w t el i ee.zero hund hi hi3 kl kc l' c' h0 h1 (by rw [hi2]; exact h2) h3;have hzs : ee.zero.cells.size=ee.size:=by simpa using hz
     rw [hi1,<-hzs] at hrun;have hown : (w.alloc (.cells (madeCells ee.zero.cells (c'.toNat*ee.zero.cells.size)) el)).ownsRow 0 el ee.size (.slice (some ⟨w.heap.size,0,none⟩) l'.toNat c'.toNat) l'.toNat (repl l'.toNat ee.zero.cells.toList):=by
      refine ⟨by rw [zbP]; simp [hzs],.inr ⟨w.heap.size,c'.toNat,_,rfl,zyD _,zqT _ _,by omega,by simp [maxLen]; omega,by rw [size_madeCells,hzs],?_⟩⟩;rw [<-hzs];exact ziu _ _ _ (by omega)
     refine ⟨_,_,_,_,hk,h.own hd hf (kk:=none) (by exact zxr _) (World.grownBy_alloc w _ none) (by intro b hb; cases hb) hown (fun b hb=>.inl (by cases hb; exact zxr _)),?_⟩;obtain ⟨dst,op,type,pos,after,guard⟩:=o;simp only at ho;subst ho;refine zbe rfl ?_;rw [hl,hc];exact hrun
   ·exact hs.elim
  ·exact hs.elim
 ·exact hs.elim

theorem _root_.Go.World.grownBy.refl_ (w : World) (row : Option Nat) : w.grownBy w row:=⟨rfl,rfl,rfl,zxr _,fun _ _ _=>rfl⟩
theorem zd9 (base : Nat) (t ty e : TypeId) (i : TypeInfo) (size : Nat) (ht : P.underlying t=some (.slice e)) (hi : P.info? e=some i)
  (v : Value) (n : Nat) (xs : List Value) (hown : w.ownsRow base e size v n xs) (c : Nat) :
  (Builtin.append_ #[t,t] ty #[v,.slice none 0 c]).run P w=.ok v w:=by
 rcases hown.2 with ⟨rfl,rfl⟩ | ⟨g,cap,cur,rfl,_,_,hnc,_⟩
 ·simp [Builtin.append_,run_underlying ht,sizeOf,typeInfo,hi,Builtin.lenOf,Builtin.firstCells]
 ·simp [Builtin.append_,run_underlying ht,sizeOf,typeInfo,hi,Builtin.lenOf,Builtin.firstCells,hnc,storeCells]

theorem zsC {w : World} {g t j : Nat} {cur : Array Value} {u : Value} (h : w.heap[g]?=some (.cells cur t (0,0))) (hj : cur[j]?=some u) : w.cell? ⟨g,j,none⟩=some u:=by
 rw [zcg h]; exact hj
theorem zkA (h : SRE C E st a w) {es : Nat} (hpos : 0<es) {y : Operand} {fin : Nat->List Value->Prop} (hs : zlk st es y fin) :
  (∃ c,a.eval y=.slice none 0 c/\fin 0 [])\/∃ m vs sa c,a.eval y=.slice (some sa) m c/\vs.length=m*es/\(∀ j u,vs[j]?=some u->w.cell? (sa.add j)=some u)/\(∀ u∈vs,u.oneCell'=true)/\fin m vs:=by
 unfold zlk at hs;split at hs
 ·rename_i k2 off m c hy;split at hs
  ·rename_i cs hcs;split at hs
   ·rename_i vs hvs
    cases hone : vs.all oneV with
    | false=>rw [hone] at hs; exact hs.elim
    | true =>
     rw [hone] at hs;obtain ⟨ht1,ht2⟩:=zeV hvs;rw [zeH] at ht1;have hblock : ∃ b ty,E.β k2=some b/\w.heap[b]?=some (.cells cs.toArray ty (0,0)):=by
      unfold boxV at hcs;split at hcs
      ·rename_i cs' ty hm;obtain ⟨b,hb,hcells⟩:=h.mem.ent _ _ hm;rw [zbq E hcs] at hcells;exact ⟨b,ty,hb,hcells⟩
      ·rename_i cs' ty hm
       cases hcs
       obtain ⟨b,hb,hcells⟩:=h.mem.ent _ _ hm;exact ⟨b,ty,hb,hcells⟩
      ·cases hcs
     obtain ⟨b,ty,hb,hcells⟩:=hblock;refine .inr ⟨m,vs,⟨b,off,none⟩,c,by rw [zaN h hy]; simp [SV.real,AV.real,hb],ht2,fun j u hj=>?_,fun u hu=>?_,hs⟩
     ·rw [zxK,zcg hcells];rw [ht1,zx7] at hj;split at hj
      ·simpa using hj
      ·cases hj
     ·have:=zx2.1 hone u hu
      cases u <;> first | rfl | (simp [oneV] at this)
   ·exact hs.elim
  ·exact hs.elim
 ·rename_i A m c hy;obtain ⟨vs,hlen,hone,hA,hk⟩:=hs.out;rcases hA w (fun R hR=>(h.mem.res R hR).2.1) with ⟨rfl,hm⟩ | ⟨sa,rfl,hcells⟩
  ·have hm0 : m=0:=by
    rcases zyf m with h0 | h0
    ·exact h0
    ·have:=zyN h0 hpos; omega
   subst hm0;have hvs : vs=[]:=zyO.1 (by omega);subst hvs;exact .inl ⟨c,zaN h hy,hk⟩
  ·exact .inr ⟨m,vs,sa,c,zaN h hy,hlen,hcells,hone,hk⟩
 ·rename_i k2 hy;split at hs
  ·rename_i t2 es2 m vs hm
   cases hb : Nat.beq es2 es with
   | false=>rw [hb] at hs; exact hs.elim
   | true =>
    rw [hb] at hs;have e1:=zxj hb;subst e1;obtain ⟨hone,hk⟩:=hs;have hent:=h.mem.ent _ _ hm;obtain ⟨hl,hv | ⟨g,cap,cur,hv,_,h3,h4,h5,h6,h7⟩⟩:=hent
    ·obtain ⟨hv1,hm0⟩:=hv;subst hm0;have hvs : vs=[]:=zyO.1 (by omega);subst hvs;exact .inl ⟨_,(zaN h hy).trans hv1,hk⟩
    ·refine .inr ⟨m,vs,⟨g,0,none⟩,cap,(zaN h hy).trans hv,hl,fun j u hj=>?_,hone,hk⟩;rw [<-h7,zx7] at hj;split at hj
     ·rw [zxK,zyo];exact zsC h3 (by simpa using hj)
     ·cases hj
  ·exact hs.elim
 ·exact hs.elim

theorem zgz (hT : zaY P T) (h : SRE C E st a w) {o : Oper} {t : TypeId} {x y : Operand} {d : Nat} (ho : o.op=.call ⟨.builtin .append,#[x,y],#[t,t]⟩) (hd : zby C.N (some d)=true) {K : SS->Prop} (hs : zhB T st d t x y K) :
  ∃ st' w' E' v,K st'/\SRE C E' st' (a.put (some d) v) w'/\(execOp a.eval o).run P w=.ok (.value v) w':=by
 unfold zhB at hs;split at hs
 ·rename_i e he;split at hs
  ·rename_i el hdesc;split at hs
   ·rename_i ee hee
    cases hf : (st.has d||!(Nat.beq ee.zero.cells.toList.length ee.size)||Nat.beq ee.size 0) with
    | true=>rw [hf] at hs; exact hs.elim
    | false =>
     rw [hf] at hs;simp only [cond_false] at hs;simp only [zxD,zyM] at hf;obtain ⟨⟨hf,hz⟩,hpos⟩:=hf;have hz:=zxj hz;have hpos : 0<ee.size:=Nat.pos_of_ne_zero (zaH.1 hpos);have hzs : ee.zero.cells.size=ee.size:=by simpa using hz
     obtain ⟨i,hi,hi1,hi2,hi3⟩:=(hT _ _ hee).1.parts;have hund:=(hT _ _ he).1.und;rw [hdesc] at hund;have hexec : ∀ {v : Value} {w' : World} {p q : Value},a.eval x=p->a.eval y=q->(Builtin.append_ #[t,t] o.type #[p,q]).run P w=.ok v w'->(execOp a.eval o).run P w=.ok (.value v) w':=by
      intro v w' p q hp hq hv;obtain ⟨dst,op,type,pos,after,guard⟩:=o;simp only at ho;subst ho;subst hp hq;show (do let d <-resolve a.eval ⟨.builtin .append,#[x,y],#[t,t]⟩ type; invoke d.target d.args : Sem Next).run P w=_;simp only [resolve,pure_bind,invoke];have hsb : builtin .append #[t,t] type (#[x,y].map fun | .const _=>true | _=>false) (#[x,y].map a.eval)=(do pure (.value (<-Builtin.append_ #[t,t] type #[a.eval x,a.eval y])) : Sem Next):=by
       show (do pure (.value (<-Builtin.append_ #[t,t] type (#[x,y].map a.eval))) : Sem Next)=_;simp
      exact (zyr (fun z : Sem Next=>z.run P w) hsb).trans (by rw [zxy,hv]; rfl)
     have key : ∀ (kk : Option Nat) (n : Nat) (xs : List Value) (v : Value),a.eval x=v->w.ownsRow 0 el ee.size v n xs->(∀ b,v.ownBlock=some b->∃ k m,kk=some k/\lk k st.me=some m/\E.β k=some b/\IsC w b) ->
       zlk st ee.size y (fun m vs=>PVC (n+m<=9223372036854775807/\(n+m)*ee.bytes<=140737488355328) (K (st.fresh d kk el ee.size (n+m) (app xs vs))))->∃ st' w' E' v,K st'/\SRE C E' st' (a.put (some d) v) w'/\(execOp a.eval o).run P w=.ok (.value v) w':=by
      intro kk n xs v hxv hown hblk hsrc;rcases zkA h hpos hsrc with ⟨c,hy,hk⟩ | ⟨m,vs,sa,c,hy,hlen,hcells,hone,hp⟩
      ·have hrun:=zd9 (P:=P) (w:=w) 0 t o.type el i ee.size hund hi v n xs hown c;refine ⟨_,w,zaz E d v,v,hk.k,?_,hexec hxv hy hrun⟩;rw [za4,zyP];exact h.own hd hf (zxr _) (World.grownBy.refl_ w v.ownBlock) hblk hown (fun b hb=>.inr hb)
      ·have hmax:=hp.c.1;obtain ⟨v',w',hrun,hown',hg,_,hwhere⟩:=run_append_own_at (P:=P) w 0 t o.type el i ee.zero ee.size ee.bytes hund hi hi3 hi1 hi2 hzs hpos v n xs hown sa m c vs hlen hcells hone
        (by simp [maxLen]; omega) hp.c.2 (zyD _)
       refine ⟨_,w',zaz E d v',v',hp.k,?_,hexec hxv hy hrun⟩;rw [za4];refine h.own hd hf (zlz _ hrun) hg (fun b hb=>hblk b hb) hown' (fun b hb=>?_);rcases hwhere with hw | hw
       ·exact .inr (hw▸hb)
       ·rw [hw] at hb; cases hb; exact .inl (zxr _)
     split at hs
     ·rename_i k hx;split at hs
      ·rename_i t' es n xs hm
       cases hb : (Nat.beq t' el&&Nat.beq es ee.size) with
       | false=>rw [hb] at hs; exact hs.elim
       | true =>
        rw [hb] at hs;simp only [zxV] at hb;have e1:=zxj hb.1;have e2:=zxj hb.2;subst e1 e2;have hent:=h.mem.ent _ _ hm;refine key (some k) n xs _ (zaN h hx) hent (fun b hb=>?_) hs;have hbk : E.β k=some b:=by
         simp only [SV.real,AV.real] at hb
         cases hβ : E.β k with
         | none=>rw [hβ] at hb; cases hb
         | some c=>rw [hβ] at hb; exact hb
        refine ⟨k,_,rfl,hm,hbk,?_⟩;obtain ⟨_,_,⟨h1,_⟩ | ⟨b',cur,h1,h2,_⟩⟩:=zbH hent
        ·rw [h1] at hbk; cases hbk
        ·rw [hbk] at h1; cases h1; exact ⟨_,h2,rfl⟩
      ·exact hs.elim
     ·rename_i hx;exact key none 0 [] _ (zaN h hx) (zyQ _ _ _ _) (fun b hb=>by cases hb) hs
     ·rename_i b0 n cap hx;obtain ⟨xs,hlx,_,hA,hsrc⟩:=hs.out;rcases hA w (fun R hR=>(h.mem.res R hR).2.1) with ⟨h1,_⟩ | ⟨ba,h1,hold⟩
      ·cases h1
      cases h1
      rcases zkA h hpos hsrc with ⟨c,hy,hk⟩ | ⟨m,vs,sa,c,hy,hlen,hcells,hone,hp⟩
      ·have:=hk.c;omega
      ·obtain ⟨_,hc1,hc2,hc3⟩:=hp.c;obtain ⟨v',w',hrun,hown',hg⟩:=run_append_arg_grows (P:=P) w t o.type el i ee.zero ee.size ee.bytes hund hi hi3 hi1 hi2 hzs hpos b0 n cap xs hlx hold sa m c vs hlen hcells
        hc1 (by simp [maxLen]; omega) hc3
       refine ⟨_,w',zaz E d v',v',hp.k,?_,hexec (zaN h hx) hy hrun⟩;rw [za4];have hown0 : w'.ownsRow 0 el ee.size v' (n+m) (xs++vs):=by
        obtain ⟨h1,h2 | ⟨g,cp,cur,rfl,_,h4⟩⟩:=hown'
        ·exact ⟨h1,.inl h2⟩
        ·exact ⟨h1,.inr ⟨g,cp,cur,rfl,zyD _,h4⟩⟩
       refine h.own (kk:=none) (row:=none) hd hf (zlz _ hrun) hg (fun b hb=>by cases hb) hown0 (fun b hb=>?_);obtain ⟨h1,⟨rfl,_⟩ | ⟨g,cp,cur,rfl,h3,h4⟩⟩:=hown'
       ·cases hb
       ·cases hb; exact .inl h3
     ·exact hs.elim
   ·exact hs.elim
  ·exact hs.elim
 ·exact hs.elim

theorem zuF (h : SRE C E st a w) {x : Option Operand} {d i : Int} (hx : optI st x d=some i) : (x=none/\i=d)\/∃ y k,x=some y/\a.eval y=.int k i:=by
 cases x with
 | none=>simp only [optI,zxq] at hx; exact .inl ⟨rfl,hx.symm⟩
 | some y=>obtain ⟨k,hk⟩:=zd3 h hx; exact .inr ⟨y,k,rfl,hk⟩

theorem zix (hT : zaY P T) (h : SRE C E st a w) {o : Oper} {t : TypeId} {x : Operand} {lo hi mx : Option Operand} (ho : o.op=.slice t x lo hi mx) {K : SV->Prop} (hs : zeG T st t x lo hi mx K) :
  ∃ v : SV,K v/\(execOp a.eval o).run P w=.ok (.value (v.real E)) w:=by
 have hgo : ∀ {v : Value},(Instr.sliceAt t (a.eval x) (lo.map a.eval) (hi.map a.eval) (mx.map a.eval)).run P w=.ok v w->(execOp a.eval o).run P w=.ok (.value v) w:=by
  intro v hv;obtain ⟨dst,op,type,pos,after,guard⟩:=o;simp only at ho;subst ho;exact zbe rfl hv
 have hopt : ∀ {z : Option Operand} {d i : Int},optI st z d=some i->(z.map a.eval=none/\i=d)\/∃ k,z.map a.eval=some (.int k i):=by
  intro z d i hz;rcases zuF h hz with ⟨rfl,rfl⟩ | ⟨y,k,rfl,hy⟩
  ·exact .inl ⟨rfl,rfl⟩
  ·exact .inr ⟨k,by simp [hy]⟩
 unfold zeG at hs;split at hs
 ·rename_i e k off he hx;split at hs
  ·rename_i n el hdesc;split at hs
   ·rename_i ee l h' hee hl hh
    cases hb : ze0 st k with
    | false=>rw [hb] at hs; exact hs.elim
    | true =>
     rw [hb] at hs;obtain ⟨⟨h0,h1,h2⟩,hk⟩:=hs;obtain ⟨b,hb⟩:=zg1 h hb;refine ⟨_,hk,hgo ?_⟩;have hev : a.eval x=.pointer (some ⟨b,off,none⟩):=by rw [zaN h hx]; simp [SV.real,AV.real,hb]
     have hu:=(hT _ _ he).1.run_und (w:=w);rw [hdesc] at hu;rw [hev];unfold Instr.sliceAt;rw [zxy,hu];simp only [Result.andThen,Instr.sureAddr];rw [zxy];simp only [zxZ,Result.andThen,zyp];rw [zxy,zeQ false n n (hopt hl) (hopt hh) h0 h1 h2];simp only [Result.andThen];rw [zxy,(hT _ _ hee).1.run_size];simp only [Result.andThen,zxZ,SV.real,AV.real,hb,zxp]
     congr 2
     by_cases hn : n=l.toNat
     ·rw [zxJ hn,hn]; simp
     ·rw [zxI hn,zaH.2 hn]; simp [zxK]
   ·exact hs.elim
  ·exact hs.elim
 ·rename_i e A n c he hx;split at hs
  ·rename_i el hdesc;split at hs
   ·rename_i ee l h' hee hl hh;obtain ⟨⟨h0,h1,h2⟩,hk⟩:=hs;refine ⟨_,hk,hgo ?_⟩;have hu:=(hT _ _ he).1.run_und (w:=w);rw [hdesc] at hu;rw [zaN h hx];simp only [SV.real,AV.real];unfold Instr.sliceAt;rw [zxy,hu];simp only [Result.andThen];unfold Instr.slice;rw [zxy,hu];simp only [Result.andThen,zyp];rw [zxy,zeQ true n c (hopt hl) (hopt hh) h0 h1 h2];simp only [Result.andThen];rw [zxy,(hT _ _ hee).1.run_size];simp only [Result.andThen,zxZ]
   ·exact hs.elim
  ·rename_i el mm hdesc;split at hs
   ·rename_i ee hh hee;split at hs
    ·rename_i h' m hh' hm';obtain ⟨⟨h0,h1,h2⟩,hk⟩:=hs;obtain ⟨k1,hev1⟩:=zd3 h hh';obtain ⟨k2,hev2⟩:=zd3 h hm';refine ⟨_,hk,hgo ?_⟩;have hu:=(hT _ _ he).1.run_und (w:=w);rw [hdesc] at hu;rw [zaN h hx];simp only [SV.real,AV.real];unfold Instr.sliceAt;rw [zxy,hu];simp only [Result.andThen];unfold Instr.slice;rw [zxy,hu];simp only [Result.andThen,zyp,zxp,hev1,hev2];rw [zxy,zhD n c h0 h1 h2];simp only [Result.andThen];rw [zxy,(hT _ _ hee).1.run_size];simp only [Result.andThen,zxZ];have hz : Option.map (fun x : Addr=>x.add (0*ee.size)) A=A:=by
      cases A with
      | none=>rfl
      | some z=>simp [Addr.add]
     rw [hz];simp
    ·exact hs.elim
   ·exact hs.elim
  ·exact hs.elim
 ·rename_i e k off n c he hx;split at hs
  ·rename_i el hdesc;split at hs
   ·rename_i ee l h' hee hl hh;obtain ⟨⟨h0,h1,h2,h3⟩,hk⟩:=hs;refine ⟨_,hk,hgo ?_⟩;have hu:=(hT _ _ he).1.run_und (w:=w);rw [hdesc] at hu;rw [zaN h hx];simp only [SV.real,AV.real];unfold Instr.sliceAt;rw [zxy,hu];simp only [Result.andThen];unfold Instr.slice;rw [zxy,hu];simp only [Result.andThen,zyp];rw [zxy,zeQ true n c (hopt hl) (hopt hh) h0 h1 h2];simp only [Result.andThen];rw [zxy,(hT _ _ hee).1.run_size];simp only [Result.andThen,zxZ];rw [zxI (by omega)]
    cases E.β k <;> simp [zxK]
   ·exact hs.elim
  ·exact hs.elim
 ·exact hs.elim

theorem zjm (hT : zaY P T) (h : SRE C E st a w) {o : Oper} {s t : TypeId} {x : Operand} (ho : o.op=.convert s t x) {K : SV->Prop} (hs : zgj T st s t x K) :
  ∃ v : SV,K v/\(execOp a.eval o).run P w=.ok (.value (v.real E)) w:=by
 have hgo : ∀ {v : Value},(convert s t (a.eval x)).run P w=.ok v w->(execOp a.eval o).run P w=.ok (.value v) w:=by
  intro v hv;obtain ⟨dst,op,type,pos,after,guard⟩:=o;simp only at ho;subst ho;exact zbe rfl hv
 unfold zgj at hs;split at hs
 ·rename_i es e hes he;split at hs
  ·rename_i el hd1 hd2;split at hs
   ·rename_i ee hee;split at hs
    ·rename_i hd3;have hu1:=(hT _ _ hes).1.und;have hu2:=(hT _ _ he).1.und;have hu3:=(hT _ _ hee).1.und;rw [hd1] at hu1;rw [hd2] at hu2;rw [hd3] at hu3;have key : ∀ {b off n c : Nat} {l : List UInt8},l.length=n->a.eval x=.slice (some ⟨b,off,none⟩) n c->(∀ j v,(bytV l)[j]?=some v->w.cell? ⟨b,off+j,none⟩=some v)->(convert s t (a.eval x)).run P w=.ok (.string ⟨l.toArray⟩) w:=by
      intro b off n c l hlen hev hc;subst hlen;rw [hev];exact run_convert_bytes_back w s t el ⟨b,off,none⟩ c l hu1 hu3 hu2 (fun j hj=>by rw [zxK]; exact hc j _ (by simp [bytV,hj]))
     split at hs
     ·rename_i k hx;split at hs
      ·rename_i ty es' n xs hm
       cases hb : Nat.beq es' 1 with
       | false=>rw [hb] at hs; exact hs.elim
       | true =>
        rw [hb] at hs;have e1:=zxj hb;subst e1;obtain ⟨l,hlen,hl,hk⟩:=hs.out;refine ⟨_,hk,hgo ?_⟩;obtain ⟨h1,hn,⟨hβ,hω,h0⟩ | ⟨b,cur,hβ,hheap,_,_,_,htake⟩⟩:=zbH (h.mem.ent _ _ hm)
        ·have : l=[]:=zyO.1 (by omega);subst this;rw [zaN h hx];simp only [SV.real,AV.real,hβ,hω,zyp];rw [run_convert_bytes_string w s t el none 0 0 hu1 hu3 hu2];rfl
        ·refine key hlen (b:=b) (off:=0) (c:=(E.ω k).2) (by rw [zaN h hx]; simp [SV.real,AV.real,hβ,hn]) (fun j v hj=>?_);rw [zcg hheap,zyo];rw [<-hl,<-htake,zyR,zyH,zx7] at hj;split at hj
         ·simpa using hj
         ·cases hj
      ·exact hs.elim
     ·rename_i k off n c hx;split at hs
      ·rename_i cs hcs;obtain ⟨l,hlen,hl,hk⟩:=hs.out;refine ⟨_,hk,hgo ?_⟩;have hblock : ∃ b ty,E.β k=some b/\w.heap[b]?=some (.cells cs.toArray ty (0,0)):=by
        unfold boxV at hcs;split at hcs
        ·rename_i cs' ty hm;obtain ⟨b,hb,hcells⟩:=h.mem.ent _ _ hm;rw [zbq E hcs] at hcells;exact ⟨b,ty,hb,hcells⟩
        ·rename_i cs' ty hm
         cases hcs
         obtain ⟨b,hb,hcells⟩:=h.mem.ent _ _ hm;exact ⟨b,ty,hb,hcells⟩
        ·cases hcs
       obtain ⟨b,ty,hb,hcells⟩:=hblock;refine key hlen (b:=b) (off:=off) (c:=c) (by rw [zaN h hx]; simp [SV.real,AV.real,hb]) (fun j v hj=>?_);rw [zcg hcells];rw [<-hl,zx7,zx8] at hj;split at hj
       ·simpa using hj
       ·cases hj
      ·exact hs.elim
     ·exact hs.elim
    ·exact hs.elim
   ·exact hs.elim
  ·exact hs.elim
 ·exact hs.elim

theorem zk0 (hT : zaY P T) (h : SRE C E st a w) {o : Oper} {t : TypeId} {x : Operand} (ho : o.op=.call ⟨.builtin .clear,#[x],#[t]⟩) {K : SS->Prop} (hs : ziW T st t x K) :
  ∃ st' w',K st'/\SRE C E st' a w'/\(execOp a.eval o).run P w=.ok (.value (.tuple #[])) w':=by
 unfold ziW at hs;split at hs
 ·rename_i e k off n c he hx;split at hs
  ·rename_i el hdesc;split at hs
   ·rename_i ee hee;split at hs
    ·rename_i cs ty hm;obtain ⟨⟨hn,hz,hfit,hone⟩,hk⟩:=hs;obtain ⟨b,hb',hheap⟩:=h.mem.ent _ _ hm;have hlen : (repl n ee.zero.cells.toList).length=n*ee.size:=by rw [zbP,hz]
     refine ⟨_,w.setRow b (putN off (repl n ee.zero.cells.toList) cs).toArray,hk,h.store hm hb' hheap (fun hn=>⟨b,hb',hn⟩),?_⟩;have hev : a.eval x=.slice (some ⟨b,off,none⟩) n c:=by rw [zaN h hx]; simp [SV.real,AV.real,hb']
     have hst:=run_storeCells_at (P:=P) b off ty (repl n ee.zero.cells.toList) 0 _ w hheap (by simp [hlen]; exact hfit) (fun v hv=>hone v (znB hv));have hrow : cs.toArray.toList.take (off+0)++repl n ee.zero.cells.toList++cs.toArray.toList.drop (off+0+(repl n ee.zero.cells.toList).length)=putN off (repl n ee.zero.cells.toList) cs:=by
      rw [zb9 _ _ _ (by omega)]; simp
     rw [hrow] at hst;have hu:=(hT _ _ he).1.run_und (w:=w);rw [hdesc] at hu;have hv : (Builtin.clear_ #[t] o.type #[.slice (some ⟨b,off,none⟩) n c]).run P w=.ok (.tuple #[]) (w.setRow b (putN off (repl n ee.zero.cells.toList) cs).toArray):=by
      obtain ⟨m,rfl⟩ : ∃ m,n=m+1:=⟨n-1,by omega⟩;unfold Builtin.clear_;simp only [zx3,List.getElem?_cons_zero];rw [zxy,hu];simp only [Result.andThen];rw [zxy,(hT _ _ hee).1.run_zero];simp only [Result.andThen];rw [zxy,zit,hst];rfl
     obtain ⟨dst,op,type,pos,after,guard⟩:=o;simp only at ho hv;subst ho;show (do let d <-resolve a.eval ⟨.builtin .clear,#[x],#[t]⟩ type; invoke d.target d.args : Sem Next).run P w=_;have hs2 : builtin .clear #[t] type (#[x].map fun | .const _=>true | _=>false) (#[x].map a.eval)=(do pure (.value (<-Builtin.clear_ #[t] type #[a.eval x])) : Sem Next):=by
      show (do pure (.value (<-Builtin.clear_ #[t] type (#[x].map a.eval))) : Sem Next)=_;simp
     exact (zyr (fun z : Sem Next=>z.run P w) hs2).trans (by rw [zxy,hev,hv]; rfl)
    ·exact hs.elim
   ·exact hs.elim
  ·exact hs.elim
 ·exact hs.elim

theorem zn2 (hT : zaY P T) (h : SRE C E st a w) {o : Oper} (hd : zby C.N o.dst=true) {K : SS->Prop} (hs : sopX P T C o st K) {next : Act->World->Prop} {Q : Exit->Act->World->Prop}
  (hK : ∀ st' a' w',K st'->SR C st' a' w'->next a' w') : o.wpIn (FW ro) n P a w next Q:=by
 have hval : ∀ {v : SV},(∀ c,o.op≠.defer c)->K (st.put o.dst v)->(execOp a.eval o).run P w=.ok (.value (v.real E)) w->o.wpIn (FW ro) n P a w next Q:=by
  intro v hdf hk hrun;refine zbr hdf ?_;rw [hrun];exact hK _ _ _ hk ⟨E,h.put hd v⟩
 have hop : (∀ c,o.op≠.defer c)->OpVC P C o st K->o.wpIn (FW ro) n P a w next Q:=by
  intro hdf hs;obtain ⟨st',w',E',v,hk,hst,hrun | ⟨hd0,hrun⟩⟩:=hs.out E a w h
  ·refine zbr hdf ?_;rw [hrun];exact hK _ _ _ hk ⟨E',hst⟩
  ·refine zbr hdf ?_;rw [hrun];show next (a.put o.dst undef) w'
   rw [hd0] at hst ⊢;exact hK _ _ _ hk ⟨E',hst⟩
 unfold sopX at hs;split at hs
 ·rename_i ho;exact hop (by rw [ho]; simp) hs
 ·rename_i ho;exact hop (by rw [ho]; simp) hs
 ·rename_i ho;exact hop (by rw [ho]; simp) hs
 ·rename_i t x ho;obtain ⟨v,hk,hrun⟩:=zjp hT h ho hs;exact hval (by rw [ho]; simp) hk hrun
 ·rename_i t x y ho;split at hs
  ·rename_i hdst;obtain ⟨st',w',hk,hst,hrun⟩:=ziw hT h ho hs;refine zbr (by rw [ho]; simp) ?_;rw [hrun];show next (a.put o.dst undef) w'
   rw [hdst];exact hK _ _ _ hk ⟨E,hst⟩
  ·exact hs.elim
 ·rename_i t l c ho;split at hs
  ·rename_i d hdst;rw [hdst] at hd;obtain ⟨st',w',E',v,hk,hst,hrun⟩:=zjB hT h ho hd hs;refine zbr (by rw [ho]; simp) ?_;rw [hrun];show next (a.put o.dst v) w'
   rw [hdst];exact hK _ _ _ hk ⟨E',hst⟩
  ·exact hs.elim
 ·rename_i t x lo hi mx ho;obtain ⟨v,hk,hrun⟩:=zix hT h ho hs;exact hval (by rw [ho]; simp) hk hrun
 ·rename_i s t x ho;obtain ⟨v,hk,hrun⟩:=zjm hT h ho hs;exact hval (by rw [ho]; simp) hk hrun
 ·rename_i args ts ho;split at hs
  ·rename_i d x y t t' hdst hargs hts
   cases hb : Nat.beq t t' with
   | false=>rw [hb] at hs; exact hs.elim
   | true =>
    rw [hb] at hs;have e1:=zxj hb;subst e1;have ha : args=#[x,y]:=by apply zyh; simpa using hargs
    have ht : ts=#[t,t]:=by apply zyh; simpa using hts
    subst ha ht;rw [hdst] at hd;simp only [cond_true] at hs;obtain ⟨st',w',E',v,hk,hst,hrun⟩ : ∃ st' w' E' v,K st'/\SRE C E' st' (a.put (some _) v) w'/\(execOp a.eval o).run P w=.ok (.value v) w':=by
     cases hnf : zvD st x y with
     | false=>rw [hnf] at hs; exact zgz hT h ho hd hs
     | true =>
      rw [hnf] at hs;obtain ⟨E1,t1,hp,h1⟩:=hs.out E a w h;exact zgz hT h1 ho hd hp
    refine zbr (by rw [ho]; simp) ?_;rw [hrun];show next (a.put o.dst v) w'
    rw [hdst];exact hK _ _ _ hk ⟨E',hst⟩
  ·exact hs.elim
 ·rename_i f args ts ho;unfold zfc at hs;split at hs
  ·rename_i l hl;split at hs
   ·rename_i g l' hcal;refine zbr (by rw [ho]; simp) ?_;rw [zpe h hl hcal hs.enters _ ho];refine ⟨fun hh=>(by cases hh),?_⟩;have:=hs.out E w h.mem;refine (callsIn_wide (n:=n-1)).2 (this.mono ?_);rintro e w' ⟨E',st',x,rfl,hmem,hkd,hsame,hk⟩;have h2 : SRE C E' st' a w':=⟨h.size,h.defers.keep hkd,fun i sv hi=>by obtain ⟨sv0,h0,h1⟩:=hsame i sv hi; rw [h1]; exact h.tm i sv0 h0,hmem⟩;exact hK _ _ _ hk ⟨E',h2.put hd x⟩
   ·split at hs
    ·rename_i k hy;refine zbr (by rw [ho]; simp) ?_;obtain ⟨fn,tmps,assign,body,hrun,hround⟩:=hs.out E w h.mem ro (n-1);rw [zrB h hl hy _ ho,hrun];refine ⟨fun hh=>(by cases hh),hround.mono ?_⟩;rintro e w' ⟨E',st',x,rfl,hmem,hkd,hsame,hk⟩;have h2 : SRE C E' st' a w':=⟨h.size,h.defers.keep hkd,fun i sv hi=>by obtain ⟨sv0,h0,h1⟩:=hsame i sv hi; rw [h1]; exact h.tm i sv0 h0,hmem⟩;exact hK _ _ _ hk ⟨E',h2.put hd x⟩
    ·exact hs.elim
  ·exact hs.elim
 ·rename_i args ts ho;split at hs
  ·rename_i x t hargs hts;have ha : args=#[x]:=by apply zyh; simpa using hargs
   have ht : ts=#[t]:=by apply zyh; simpa using hts
   subst ha ht;obtain ⟨st',w',hk,hst,hrun⟩:=zk0 hT h ho hs;refine zbr (by rw [ho]; simp) ?_;rw [hrun];exact hK _ _ _ hk ⟨E,hst.put hd (.o (.v (.tuple #[])))⟩
  ·exact hs.elim
 ·exact hs.elim

theorem zfG (hT : zaY P T) (h : SRE C E st a w) {o : Oper} {K : SS->Prop} (hs : sop P T C o st K) {next : Act->World->Prop} {Q : Exit->Act->World->Prop}
  (hK : ∀ st' a' w',K st'->SR C st' a' w'->next a' w') : o.wpIn (FW ro) n P a w next Q:=by
 unfold sop at hs
 cases hd : zby C.N o.dst with
 | false=>rw [hd] at hs; exact hs.elim
 | true =>
  rw [hd] at hs;simp only [cond_true] at hs;have hdef : ∀ {x},dop T st (o.dst.getD 0) o.op=some x->∀ c,o.op≠.defer c:=by
   intro x hx c hc; rw [hc] at hx; cases hx
  split at hs
  ·rename_i c x hdop;obtain ⟨hc,hk⟩:=zgS hs;have hdo:=zkB hT h (o:=o) hdop hc;obtain ⟨v,w',E',hrun,hst,_⟩:=hdo.step h hd (by simp);refine zbr (hdef hdop) ?_;rw [hrun];exact hK _ _ _ hk ⟨E',hst⟩
  ·rename_i c m x hdop;split at hs
   ·rename_i d hdst;obtain ⟨hc,hk⟩:=zgS hs;have hdo:=zkB hT h (o:=o) hdop hc;obtain ⟨v,w',E',hrun,hst,_⟩:=hdo.step h hd (fun _=>by rw [hdst]; rfl);refine zbr (hdef hdop) ?_;rw [hrun];rw [hdst] at hst;show next (a.put o.dst v) w'
    rw [hdst];exact hK _ _ _ hk ⟨E',hst⟩
   ·exact hs.elim
  ·rename_i hdop;exact zn2 hT h hd hs hK

end

structure Same (st st' : SS) (xs : List Operand) : Prop where
 ev : ∀ x∈xs,ev st' x=ev st x
 me : ∀ x∈xs,∀ sv k,Sx.ev st x=some sv->sv.has k=true->lk k st'.me=lk k st.me

theorem Same.mono {st st' : SS} {xs ys : List Operand} (h : Same st st' xs) (hs : ∀ y∈ys,y∈xs) : Same st st' ys :=
 ⟨fun y hy=>h.ev y (hs y hy),fun y hy=>h.me y (hs y hy)⟩

theorem zfd {st st' : SS} {pl : Nat->Option (Nat×Nat)} : ∀ {ps : List (Nat×Operand)} {cs : List AV},Same st st' (ps.map (·.2))->zf8 st' pl ps cs=zf8 st pl ps cs
 | [],_,_=>rfl
 | (i,x)::r,cs,h=>by
  have hx:=h.ev x (by simp);have hr : Same st st' (r.map (·.2)):=h.mono (fun y hy=>zxB _ hy);simp only [zf8,hx];split
  ·rw [zfd hr]
  ·rfl
theorem zgA {st st' : SS} : ∀ {xs : List Operand},Same st st' xs->zeB st' xs=zeB st xs
 | [],_=>rfl
 | x::r,h=>by
  have hx:=h.ev x (by simp);have hr : Same st st' r:=h.mono (fun y hy=>zxB _ hy);simp only [zeB,hx,zgA hr]
theorem zko {st st' : SS} : ∀ {xs : List Operand},Same st st' xs->evs st' xs=evs st xs
 | [],_=>rfl
 | x::r,h=>by
  have hx:=h.ev x (by simp);have hr : Same st st' r:=h.mono (fun y hy=>zxB _ hy);simp only [evs,hx,zko hr]
theorem zkj {st st' : SS} {xs : List Operand} (h : Same st st' xs) : xs.map (ev st')=xs.map (ev st):=zxl fun x hx=>h.ev x hx

theorem zj2 {st st' : SS} {d : Nat} (h : st'.has d=st.has d) (m : ME) (x : SV) : dn st' d m x=dn st d m x:=by unfold dn; rw [h]
theorem zn9 {st st' : SS} {k : Nat} (h : lk k st'.me=lk k st.me) : ownN st' k=ownN st k:=by unfold ownN; rw [h]
theorem zfj {st st' : SS} {k : Nat} (h : lk k st'.me=lk k st.me) : ze0 st' k=ze0 st k:=by unfold ze0; rw [h]
theorem zdF (k off : Nat) : (SV.o (.p k off)).has k=true:=by simp [SV.has,AV.has]
theorem zn7 (k off n m : Nat) : (SV.o (.s k off n m)).has k=true:=by simp [SV.has,AV.has]
theorem ziR (k : Nat) : (SV.o (.w k)).has k=true:=by simp [SV.has,AV.has]

theorem zke {T : TT} {st st' : SS} {d : Nat} {op : Op} (h : Same st st' op.operands.toList) (hd : st'.has d=st.has d) : dop T st' d op=dop T st d op:=by
 cases op
 case move x=>simp only [dop,h.ev x (by simp [Op.operands])]
 case assign x=>simp only [dop,h.ev x (by simp [Op.operands])]
 case pick x y z=>simp only [dop,h.ev x (by simp [Op.operands]),h.ev y (by simp [Op.operands]),h.ev z (by simp [Op.operands])]
 case alloc t=>simp only [dop,zj2 hd]
 case box t x=>simp only [dop,zj2 hd,h.ev x (by simp [Op.operands])]
 case build t ps =>
  have : Same st st' (ps.toList.map (·.2)):=h.mono (fun y hy=>by simpa [Op.operands] using hy);simp only [dop,zfd this]
 case buildSlice t n ps =>
  have : Same st st' (ps.toList.map (·.2)):=h.mono (fun y hy=>by simpa [Op.operands] using hy);simp only [dop,zfd this,zj2 hd]
 case load t x =>
  have hx:=h.ev x (by simp [Op.operands]);simp only [dop,hx];split
  ·rename_i e k off he hxx;rw [h.me x (by simp [Op.operands]) _ k hxx (zdF _ _)]
  ·rfl
 case binOp op t x y yt=>simp only [dop,h.ev x (by simp [Op.operands]),h.ev y (by simp [Op.operands])]
 case unOp op t x=>simp only [dop,h.ev x (by simp [Op.operands])]
 case convert s t x=>simp only [dop,h.ev x (by simp [Op.operands])]
 case makeFunc fn first captured =>
  cases fn with
  | func f =>
   have : Same st st' captured.toList:=h.mono (fun y hy=>by simp [Op.operands]; exact .inr (by simpa using hy));simp only [dop,zgA this]
  | _=>simp only [dop]
 case fieldAddr s x f =>
  have hx:=h.ev x (by simp [Op.operands]);simp only [dop,hx];split
  ·rename_i e y he hxx;split
   ·split
    ·split
     ·rename_i k off; rw [zfj (h.me x (by simp [Op.operands]) _ k hxx (zdF _ _)),zn9 (h.me x (by simp [Op.operands]) _ k hxx (zdF _ _))]
     ·rfl
     ·rfl
    ·rfl
   ·rfl
  ·rfl
 case field s x f=>simp only [dop,h.ev x (by simp [Op.operands])]
 case indexAddr t x i =>
  have hx:=h.ev x (by simp [Op.operands]);have hi:=h.ev i (by simp [Op.operands]);simp only [dop,hx,hi];split
  ·rename_i e y j he hxx hj;split
   ·split
    ·rename_i ee k off _; rw [zfj (h.me x (by simp [Op.operands]) _ k hxx (zdF _ _))]
    ·rfl
   ·split
    ·rename_i ee k off n m _; rw [zfj (h.me x (by simp [Op.operands]) _ k hxx (zn7 _ _ _ _))]
    ·rfl
    ·rename_i ee k _; rw [h.me x (by simp [Op.operands]) _ k hxx (ziR _)]
    ·rfl
   ·rfl
  ·rfl
 case index t x i=>simp only [dop,h.ev x (by simp [Op.operands]),h.ev i (by simp [Op.operands])]
 case slice t x lo hi mx =>
  have hx:=h.ev x (by simp [Op.operands]);have hlo : ∀ z,lo=some z->ev st' z=ev st z:=fun z hz=>h.ev z (by subst hz; simp [Op.operands])
  have hhi : ∀ z,hi=some z->ev st' z=ev st z:=fun z hz=>h.ev z (by subst hz; simp [Op.operands])
  have hmx : ∀ z,mx=some z->ev st' z=ev st z:=fun z hz=>h.ev z (by subst hz; simp [Op.operands])
  simp only [dop,hx];split
  ·cases lo with
   | none=>cases hi with
    | none=>rfl
    | some z=>simp only [hhi z rfl]
   | some y=>cases hi with
    | none=>simp only [hlo y rfl]
    | some z=>simp only [hlo y rfl,hhi z rfl]
  ·cases lo with
   | none=>cases hi with
    | none=>rfl
    | some z=>simp only [hhi z rfl]
   | some y=>cases hi with
    | none=>simp only [hlo y rfl]
    | some z=>simp only [hlo y rfl,hhi z rfl]
  ·split
   ·rename_i hh _;simp only [hhi hh rfl,hmx _ rfl]
   ·rfl
  ·rfl
 case extract x i=>simp only [dop,h.ev x (by simp [Op.operands])]
 case call c =>
  obtain ⟨zco,args,ts⟩:=c
  cases zco with
  | builtin b =>
   have hs : Same st st' args.toList:=h.mono (fun y hy=>by simpa [Op.operands,Call.operands] using hy);simp only [dop,zkj hs];unfold zsB;split
   ·rename_i t tr x hts hargs;split
    ·rename_i e he;split
     ·rfl
     ·rfl
     ·rfl
     ·rfl
     ·rename_i k hdesc;obtain ⟨y,hy,hxy⟩ : ∃ y,y∈args.toList/\ev st y=some (.o (.w k)):=by
       rcases args with ⟨_ | ⟨y,_ | ⟨z,r⟩⟩⟩
       ·simp at hargs
       ·exact ⟨y,by simp,by simpa using hargs⟩
       ·simp at hargs
      rw [hs.me y hy _ k hxy (ziR k)]
     ·rfl
    ·rfl
   ·rfl
   ·rfl
   ·rfl
   ·rfl
  | _=>simp only [dop]
 all_goals simp only [dop]

theorem zhR {st : SS} {pl : Nat->Option (Nat×Nat)} {k : Nat} (hk : st.has k=false) : ∀ {ps : List (Nat×Operand)} {cs cs' : List AV},zf8 st pl ps cs=some cs'->cs.any (AV.has k)=false->cs'.any (AV.has k)=false
 | [],cs,cs',hf,hc=>by simp only [zf8,zxq] at hf; subst hf; exact hc
 | (i,x)::r,cs,cs',hf,hc=>by
  simp only [zf8] at hf;split at hf
  ·rename_i off size sv hp hx;by_cases hb : (Nat.beq sv.cells.length size&&Nat.ble (off+size) cs.length)=true
   ·rw [hb] at hf;exact zhR hk hf (zg9 _ _ _ (zxH (zcC hk hx)) hc)
   ·rw [zxG] at hb;rw [hb] at hf; cases hf
  ·cases hf
theorem zf9 {st : SS} {k : Nat} (hk : st.has k=false) : ∀ {l : List Operand} {cs : List CP},zeB st l=some cs->cs.any (CP.has k)=false
 | [],cs,hl=>by simp only [zeB,zxq] at hl; subst hl; rfl
 | x::r,cs,hl=>by
  simp only [zeB] at hl;split at hl
  ·rename_i j off l hx hr;have ih:=zf9 hk hr;by_cases ho : off=0
   ·subst ho;simp only [zxM,cond_true,zxq] at hl;subst hl;have:=zcC hk hx;simp only [zxN,ih,zxO];exact this
   ·rw [zaH.2 ho] at hl; cases hl
  ·rename_i y l hx hr
   cases hl
   simp [zf9 hk hr,CP.has]
  ·cases hl

def zgy (k : Nat) (m : Option ME) (x : SV) : Prop:=x.has k=false/\∀ y,m=some y->y.has k=false
theorem zgy.val {k : Nat} {y : Value} : zgy k none (.o (.v y)):=⟨rfl,fun _ h=>by cases h⟩
theorem zqB {op : BinOp} {k k' : IntKind} {x y : Int} {c : Option Prop} {m : Option ME} {sv : SV} (h : zlX op k k' x y=some (c,m,sv)) (j : Nat) : zgy j m sv:=by
 cases op
 case shl=>cases h; exact .val
 case shr=>cases h; exact .val
 all_goals
  by_cases e : k=k'
  case neg=>simp [zlX,e] at h
  subst e;simp only [zlX,dv,dc,decide_true,cond_true,zxq,zxx] at h;obtain ⟨rfl,rfl,rfl⟩:=h;exact .val
theorem zqL {op : BinOp} {x y : ByteArray} {c : Option Prop} {m : Option ME} {sv : SV} (h : zpB op x y=some (c,m,sv)) (j : Nat) : zgy j m sv:=by
 cases op <;> simp only [zpB,dv,dc] at h <;> cases h <;> exact .val

theorem zoT {T : TT} {st : SS} {d : Nat} {op : Op} {c : Option Prop} {m : Option ME} {x : SV} (hd : dop T st d op=some (c,m,x)) {k : Nat} (hk : st.has k=false) (hkd : k≠d) : zgy k m x:=by
 have hw : ∀ {y : Operand} {sv : SV},ev st y=some sv->zgy k none sv:=fun hy=>⟨zcC hk hy,fun _ h=>by cases h⟩
 cases op
 case move y =>
  simp only [dop] at hd;split at hd
  ·rename_i s hx; cases hd; exact hw hx
  ·cases hd
 case assign y =>
  simp only [dop] at hd;split at hd
  ·rename_i s hx; cases hd; exact hw hx
  ·cases hd
 case pick a b e =>
  simp only [dop] at hd;split at hd
  ·rename_i bb hx
   cases bb <;> simp only at hd <;> split at hd
   ·rename_i s hy; cases hd; exact hw hy
   ·cases hd
   ·rename_i s hy; cases hd; exact hw hy
   ·cases hd
  ·cases hd
 case alloc t =>
  simp only [dop] at hd;split at hd
  ·obtain ⟨h1,rfl,rfl⟩:=zhz hd;exact ⟨zrL hkd,fun y hy=>by cases hy; exact zlJ _ _⟩
  ·cases hd
 case box t y =>
  simp only [dop] at hd;split at hd
  ·rename_i s hx;obtain ⟨h1,rfl,rfl⟩:=zhz hd;exact ⟨zrL hkd,fun y hy=>by cases hy; exact zxH (zcC hk hx)⟩
  ·cases hd
 case build t ps =>
  simp only [dop] at hd;split at hd
  ·rename_i e he;by_cases hall : allT T e.desc=true
   ·rw [hall] at hd;simp only [cond_true] at hd;split at hd
    ·rename_i cs hf;rw [znH] at hd
     cases hd
     exact ⟨zjt (zhR hk hf (zlJ _ _)),fun _ h=>by cases h⟩
    ·cases hd
   ·rw [zxG] at hall;rw [hall] at hd; cases hd
  ·cases hd
 case buildSlice t n ps =>
  simp only [dop] at hd;split at hd
  ·rename_i e he;split at hd
   ·rename_i el hdesc;split at hd
    ·rename_i ee hee;by_cases hb : (Nat.ble (n*ee.size) 1000&&Nat.beq ee.zero.cells.toList.length ee.size)=true
     ·rw [hb] at hd;simp only [cond_true] at hd;split at hd
      ·rename_i cs hf;obtain ⟨h1,rfl,rfl⟩:=zhz hd;exact ⟨zvW hkd,fun y hy=>by cases hy; exact zhR hk hf (zjc _ (zlJ _ _))⟩
      ·cases hd
     ·rw [zxG] at hb;rw [hb] at hd; cases hd
    ·cases hd
   ·cases hd
  ·cases hd
 case load t y =>
  simp only [dop] at hd;split at hd
  ·rename_i e j off he hx;split at hd
   ·rename_i cs ty hm;split at hd
    ·rename_i l hl;have hl':=zmv hl (zxE hk hm).2;by_cases hg : zbn e.desc=true
     ·rw [hg] at hd;simp only [cond_true,znH] at hd
      cases hd
      exact ⟨zjt hl',fun _ h=>by cases h⟩
     ·rw [zxG] at hg;rw [hg] at hd;simp only [cond_false] at hd;split at hd
      ·cases hd
       rw [zxN,zyn,zxO] at hl';exact ⟨hl',fun _ h=>by cases h⟩
      ·cases hd
    ·cases hd
   ·cases hd
  ·cases hd
 case binOp op t y z yt =>
  simp only [dop] at hd;split at hd
  ·exact zqB hd k
  ·exact zqL hd k
  ·split at hd
   ·split at hd
    ·cases hd; exact .val
    ·cases hd
   ·split at hd
    ·cases hd; exact .val
    ·cases hd
   ·cases hd
  ·split at hd
   ·split at hd
    ·split at hd
     ·cases hd; exact .val
     ·cases hd; exact .val
     ·cases hd
    ·cases hd
   ·cases hd
  ·split at hd
   ·split at hd
    ·cases hd; exact .val
    ·cases hd
   ·split at hd
    ·cases hd; exact .val
    ·cases hd
   ·cases hd
  ·cases hd
 case unOp op t y =>
  simp only [dop] at hd;split at hd <;> cases hd <;> exact .val
 case convert s t y =>
  simp only [dop] at hd;split at hd
  ·split at hd
   ·cases hd; exact .val
   ·cases hd
  ·split at hd
   ·cases hd; exact .val
   ·cases hd
  ·cases hd
 case makeFunc fn first captured =>
  cases fn with
  | func f =>
   simp only [dop] at hd;split at hd
   ·rename_i l hfirst hl
    cases hd
    exact ⟨zf9 hk hl,fun _ h=>by cases h⟩
   ·cases hd
  | _=>simp [dop] at hd
 case fieldAddr s y f =>
  simp only [dop] at hd;split at hd
  ·rename_i e z he hx;split at hd
   ·rename_i fd hfd;split at hd
    ·rename_i fe hfe;by_cases hz : fe.size=0
     ·rw [znn.2 hz] at hd; cases hd
     ·rw [zaH.2 hz] at hd;simp only [cond_false] at hd;split at hd
      ·rename_i j off
       cases hbx : ze0 st j with
       | false =>
        rw [hbx] at hd;simp only [cond_false] at hd;split at hd
        ·cases hd; exact ⟨zgt hk hx,fun _ h=>by cases h⟩
        ·cases hd
       | true=>rw [hbx] at hd; cases hd; exact ⟨zgt hk hx,fun _ h=>by cases h⟩
      ·cases hd; exact .val
      ·cases hd
    ·cases hd
   ·cases hd
  ·cases hd
 case field s y f =>
  simp only [dop] at hd;split at hd
  ·split at hd
   ·split at hd
    ·rename_i fe hfe;split at hd
     ·split at hd
      ·by_cases hg : zbn fe.desc=true
       ·rw [hg] at hd; cases hd; exact .val
       ·rw [zxG] at hg;rw [hg] at hd;simp only [cond_false] at hd;split at hd
        ·cases hd; exact .val
        ·cases hd
      ·cases hd
     ·cases hd
    ·cases hd
   ·cases hd
  ·cases hd
 case indexAddr t y i =>
  simp only [dop] at hd;split at hd
  ·rename_i e z j he hx hj;split at hd
   ·split at hd
    ·rename_i ee q off hee
     cases hbx : ze0 st q with
     | false=>rw [hbx] at hd; cases hd
     | true=>rw [hbx] at hd; cases hd; exact ⟨zgt hk hx,fun _ h=>by cases h⟩
    ·cases hd
   ·split at hd
    ·rename_i ee q off n cap hee
     cases hbx : ze0 st q with
     | false=>rw [hbx] at hd; cases hd
     | true=>rw [hbx] at hd; cases hd; exact ⟨zlu hk hx,fun _ h=>by cases h⟩
    ·cases hd; exact .val
    ·rename_i ee q hee;split at hd
     ·cases hd; exact ⟨zk3 hk hx,fun _ h=>by cases h⟩
     ·cases hd
    ·cases hd
   ·cases hd
  ·cases hd
 case index t y i =>
  simp only [dop] at hd;split at hd
  ·split at hd
   ·cases hd; exact .val
   ·split at hd
    ·rename_i ee hee;split at hd
     ·by_cases hg : zbn ee.desc=true
      ·rw [hg] at hd; cases hd; exact .val
      ·rw [zxG] at hg;rw [hg] at hd;simp only [cond_false] at hd;split at hd
       ·cases hd; exact .val
       ·cases hd
     ·cases hd
    ·cases hd
   ·cases hd
  ·cases hd
 case slice t y lo hi mx =>
  simp only [dop] at hd;split at hd
  ·split at hd
   ·split at hd
    ·cases hd; exact .val
    ·cases hd
   ·cases hd
  ·split at hd
   ·split at hd
    ·cases hd; exact .val
    ·cases hd
   ·cases hd
  ·split at hd
   ·split at hd
    ·cases hd; exact .val
    ·cases hd
   ·cases hd
  ·cases hd
 case extract y i =>
  simp only [dop] at hd;split at hd
  ·rename_i y' hx;split at hd
   ·rename_i vs;split at hd
    ·rename_i v hv
     cases hd
     refine ⟨?_,fun _ h=>by cases h⟩;have h1:=zcC hk hx;rw [zdc] at hv;simp only [SV.has,AV.has,zxk] at h1;have h2:=h1 v (zyq hv);rw [zxG] at h2
     cases v <;> exact h2
    ·cases hd
   ·split at hd
    ·split at hd
     ·cases hd; exact .val
     ·cases hd
    ·cases hd
   ·cases hd
  ·cases hd
 case call c =>
  obtain ⟨zco,args,ts⟩:=c
  cases zco with
  | builtin b =>
   simp only [dop] at hd;unfold zsB at hd;split at hd
   ·split at hd
    ·split at hd
     ·cases hd; exact .val
     ·cases hd; exact .val
     ·cases hd; exact .val
     ·cases hd; exact .val
     ·split at hd
      ·cases hd; exact .val
      ·cases hd
     ·cases hd
    ·cases hd
   ·cases hd; exact .val
   ·cases hd; exact .val
   ·cases hd; exact .val
   ·cases hd
  | _=>simp [dop] at hd
 all_goals (simp [dop] at hd)

end Go.Sx
end
