/- A part of the proof of a law: the symbolic executor, contracts of functions of the program, plain laws. No conditions. -/
import Derived.OrdersIn
import Derived.Still
import Derived.Below
import Derived.RangeFuncIn
import Derived.Laws.Cells
import Derived.Laws.AppendOwn
import Derived.WalkKit
import Derived.Laws.CopyRow
set_option linter.unusedVariables false
set_option linter.unusedSimpArgs false
set_option linter.unusedSectionVars false
section
/- A symbolic executor over loaded Go code: values, states, what they mean in a world. -/
namespace Go.Sx
open Go Go.RowKit

def lk {α : Type} (i : Nat) : List (Nat × α) → Option α
 | [] => none
 | (j, x) :: r => bif Nat.beq i j then some x else lk i r

theorem lk_cons {α : Type} (i j : Nat) (x : α) (r : List (Nat × α)) : lk i ((j, x) :: r) = if i = j then some x else lk i r := by
 rw [lk]
 by_cases h : i = j
 · subst h; simp
 · have : Nat.beq i j = false := by
     cases hb : Nat.beq i j
     · rfl
     · exact absurd (Nat.eq_of_beq_eq_true hb) h
   simp [this, h]

theorem beq_false {i j : Nat} : Nat.beq i j = false ↔ i ≠ j := by
 constructor
 · intro h e; subst e; simp at h
 · intro h
   cases hb : Nat.beq i j
   · rfl
   · exact absurd (Nat.eq_of_beq_eq_true hb) h
theorem beq_true {i j : Nat} : Nat.beq i j = true ↔ i = j := ⟨Nat.eq_of_beq_eq_true, fun h => by subst h; simp⟩

inductive CP where
 | e (x : Value)
 | l (k : Nat)
inductive TP where
 | e (x : Value)
 | p (k off : Nat)
 | s (k off len cap : Nat)
 | w (k : Nat)
inductive AV where
 | v (x : Value)
 | p (k off : Nat)
 | clo (f : FuncId) (caps : List CP)
 | s (k off len cap : Nat)
 | w (k : Nat)
 | tu (xs : List TP)
inductive SV where
 | o (x : AV)
 | a (xs : List AV)

structure Env where
 β : Nat → Option Nat
 ω : Nat → Nat × Nat

def CP.real (E : Env) : CP → Value
 | .e x => x
 | .l k => .pointer ((E.β k).map fun b => ⟨b, 0, none⟩)
def TP.real (E : Env) : TP → Value
 | .e x => x
 | .p k off => .pointer ((E.β k).map fun b => ⟨b, off, none⟩)
 | .s k off n m => .slice ((E.β k).map fun b => ⟨b, off, none⟩) n m
 | .w k => .slice ((E.β k).map fun b => ⟨b, 0, none⟩) (E.ω k).1 (E.ω k).2
def AV.real (E : Env) : AV → Value
 | .v x => x
 | .p k off => .pointer ((E.β k).map fun b => ⟨b, off, none⟩)
 | .clo f caps => .func (.func f) #[] (caps.map (CP.real E)).toArray
 | .s k off n m => .slice ((E.β k).map fun b => ⟨b, off, none⟩) n m
 | .w k => .slice ((E.β k).map fun b => ⟨b, 0, none⟩) (E.ω k).1 (E.ω k).2
 | .tu xs => .tuple (xs.map (TP.real E)).toArray
def SV.real (E : Env) : SV → Value
 | .o x => x.real E
 | .a xs => .agg (xs.map (AV.real E)).toArray

def CP.has (k : Nat) : CP → Bool
 | .e _ => false
 | .l j => Nat.beq j k
def TP.has (k : Nat) : TP → Bool
 | .e _ => false
 | .p j _ => Nat.beq j k
 | .s j _ _ _ => Nat.beq j k
 | .w j => Nat.beq j k
def TP.av : TP → AV
 | .e x => .v x
 | .p k off => .p k off
 | .s k off n m => .s k off n m
 | .w k => .w k
theorem TP.real_av (E : Env) (x : TP) : x.av.real E = x.real E := by cases x <;> rfl
def AV.has (k : Nat) : AV → Bool
 | .v _ => false
 | .p j _ => Nat.beq j k
 | .clo _ caps => caps.any (CP.has k)
 | .s j _ _ _ => Nat.beq j k
 | .w j => Nat.beq j k
 | .tu xs => xs.any (TP.has k)
def SV.has (k : Nat) : SV → Bool
 | .o x => x.has k
 | .a xs => xs.any (AV.has k)

def Env.but (E E' : Env) (k : Nat) : Prop := ∀ j, j ≠ k → E'.β j = E.β j ∧ E'.ω j = E.ω j

theorem CP.real_but {E E' : Env} {k : Nat} (h : E.but E' k) {x : CP} (hx : x.has k = false) : x.real E' = x.real E := by
 cases x with
 | e x => rfl
 | l j => simp only [CP.has] at hx; simp only [CP.real, (h j (beq_false.1 hx)).1]
theorem TP.real_but {E E' : Env} {k : Nat} (h : E.but E' k) {x : TP} (hx : x.has k = false) : x.real E' = x.real E := by
 cases x with
 | e x => rfl
 | p j off => simp only [TP.has] at hx; simp only [TP.real, (h j (beq_false.1 hx)).1]
 | s j off n m => simp only [TP.has] at hx; simp only [TP.real, (h j (beq_false.1 hx)).1]
 | w j => simp only [TP.has] at hx; simp only [TP.real, (h j (beq_false.1 hx)).1, (h j (beq_false.1 hx)).2]
theorem AV.real_but {E E' : Env} {k : Nat} (h : E.but E' k) {x : AV} (hx : x.has k = false) : x.real E' = x.real E := by
 cases x with
 | v x => rfl
 | p j off => simp only [AV.has] at hx; simp only [AV.real, (h j (beq_false.1 hx)).1]
 | clo f caps =>
   simp only [AV.has, List.any_eq_false] at hx
   simp only [AV.real]
   congr 2
   exact List.map_congr_left fun y hy => CP.real_but h (by simpa using hx y hy)
 | s j off n m => simp only [AV.has] at hx; simp only [AV.real, (h j (beq_false.1 hx)).1]
 | w j => simp only [AV.has] at hx; simp only [AV.real, (h j (beq_false.1 hx)).1, (h j (beq_false.1 hx)).2]
 | tu xs =>
   simp only [AV.has, List.any_eq_false] at hx
   simp only [AV.real]
   congr 2
   exact List.map_congr_left fun y hy => TP.real_but h (by simpa using hx y hy)
theorem AV.map_but {E E' : Env} {k : Nat} (h : E.but E' k) {xs : List AV} (hx : xs.any (AV.has k) = false) : xs.map (AV.real E') = xs.map (AV.real E) := by
 rw [List.any_eq_false] at hx
 exact List.map_congr_left fun y hy => AV.real_but h (by simpa using hx y hy)
theorem SV.real_but {E E' : Env} {k : Nat} (h : E.but E' k) {x : SV} (hx : x.has k = false) : x.real E' = x.real E := by
 cases x with
 | o x => exact AV.real_but h hx
 | a xs => simp only [SV.real, AV.map_but h hx]

def SV.cells : SV → List AV
 | .o (.v x) => x.cells.toList.map AV.v
 | .o y => [y]
 | .a xs => xs
theorem SV.cells_real (E : Env) (x : SV) : (x.real E).cells.toList = x.cells.map (AV.real E) := by
 cases x with
 | o x =>
   cases x <;> simp [SV.cells, SV.real, AV.real, Value.cells]
   case v x =>
     have : (AV.real E ∘ AV.v) = id := rfl
     rw [this, List.map_id]
 | a xs => simp [SV.cells, SV.real, Value.cells]

def allV : List AV → Option (List Value)
 | [] => some []
 | .v x :: r => match allV r with
   | some l => some (x :: l)
   | none => none
 | _ :: _ => none
theorem allV_real (E : Env) : ∀ {cs : List AV} {l : List Value}, allV cs = some l → cs.map (AV.real E) = l
 | [], l, h => by simp [allV] at h; subst h; rfl
 | .v x :: r, l, h => by
   simp only [allV] at h
   cases hr : allV r with
   | none => rw [hr] at h; cases h
   | some l' => rw [hr] at h; cases h; simp [AV.real, allV_real E hr]
 | .p _ _ :: _, _, h => by simp [allV] at h
 | .clo _ _ :: _, _, h => by simp [allV] at h
 | .s _ _ _ _ :: _, _, h => by simp [allV] at h
 | .w _ :: _, _, h => by simp [allV] at h
 | .tu _ :: _, _, h => by simp [allV] at h
def mkA (cs : List AV) : SV := match allV cs with
 | some l => .o (.v (.agg ⟨l⟩))
 | none => .a cs
theorem mkA_real (E : Env) (cs : List AV) : (mkA cs).real E = .agg (cs.map (AV.real E)).toArray := by
 unfold mkA
 split
 · rename_i l h; simp [SV.real, AV.real, allV_real E h]
 · rfl
theorem mkA_has {k : Nat} {cs : List AV} (h : cs.any (AV.has k) = false) : (mkA cs).has k = false := by
 unfold mkA
 split
 · rfl
 · exact h

inductive ME where
 | box (cs : List AV) (t : TypeId)
 | sym (cs : List Value) (t : TypeId)
 | own (t es n : Nat) (xs : List Value)
def ME.has (k : Nat) : ME → Bool
 | .box cs _ => cs.any (AV.has k)
 | .sym _ _ => false
 | .own _ _ _ _ => false

def MEok (E : Env) (w : World) (k : Nat) : ME → Prop
 | .box cs t => ∃ b, E.β k = some b ∧ w.heap[b]? = some (.cells (cs.map (AV.real E)).toArray t (0, 0))
 | .sym cs t => ∃ b, E.β k = some b ∧ w.heap[b]? = some (.cells cs.toArray t (0, 0))
 | .own t es n xs => w.ownsRow 0 t es (.slice ((E.β k).map fun b => ⟨b, 0, none⟩) (E.ω k).1 (E.ω k).2) n xs

theorem own_cases {E : Env} {w : World} {k t es n : Nat} {xs : List Value} (h : w.ownsRow 0 t es (.slice ((E.β k).map fun b => ⟨b, 0, none⟩) (E.ω k).1 (E.ω k).2) n xs) :
   xs.length = n * es ∧ (E.ω k).1 = n ∧ ((E.β k = none ∧ E.ω k = (0, 0) ∧ n = 0) ∨
     ∃ b cur, E.β k = some b ∧ w.heap[b]? = some (.cells cur t (0, 0)) ∧ n ≤ (E.ω k).2 ∧ (E.ω k).2 ≤ maxLen ∧ cur.size = (E.ω k).2 * es ∧ cur.toList.take (n * es) = xs) := by
 obtain ⟨h1, ⟨h2, h3⟩ | ⟨g, cap, cur, h2, _, h4, h5, h6, h7, h8⟩⟩ := h
 · injection h2 with h2 h4 h5
   refine ⟨h1, by rw [h4, h3], .inl ⟨?_, Prod.ext h4 h5, h3⟩⟩
   cases hb : E.β k with
   | none => rfl
   | some b => rw [hb] at h2; cases h2
 · injection h2 with h2 h9 h10
   cases hb : E.β k with
   | none => rw [hb] at h2; cases h2
   | some b =>
     rw [hb] at h2
     simp only [Option.map_some, Option.some.injEq, Addr.mk.injEq] at h2
     obtain ⟨rfl, _⟩ := h2
     exact ⟨h1, h9, .inr ⟨b, cur, rfl, h4, by rw [h10]; exact h5, by rw [h10]; exact h6, by rw [h10]; exact h7, h8⟩⟩

theorem ownsRow_block {w w' : World} {base t es n : Nat} {v : Value} {xs : List Value} (h : w.ownsRow base t es v n xs) (hb : ∀ b, v.ownBlock = some b → w'.heap[b]? = w.heap[b]?) : w'.ownsRow base t es v n xs := by
 obtain ⟨h1, h2 | ⟨g, cap, cur, rfl, h3, h4, h5⟩⟩ := h
 · exact ⟨h1, .inl h2⟩
 · exact ⟨h1, .inr ⟨g, cap, cur, rfl, h3, (hb g rfl).trans h4, h5⟩⟩

theorem MEok.of_block {E : Env} {w w' : World} {k : Nat} {m : ME} (h : MEok E w k m) (hb : ∀ b, E.β k = some b → w'.heap[b]? = w.heap[b]?) : MEok E w' k m := by
 cases m with
 | box cs t => obtain ⟨b, h1, h2⟩ := h; exact ⟨b, h1, (hb b h1).trans h2⟩
 | sym cs t => obtain ⟨b, h1, h2⟩ := h; exact ⟨b, h1, (hb b h1).trans h2⟩
 | own t es n xs =>
   refine ownsRow_block h fun b hb' => hb b ?_
   cases he : E.β k with
   | none => rw [he] at hb'; cases hb'
   | some c => rw [he] at hb'; exact hb'
theorem MEok.but {E E' : Env} {w : World} {j k : Nat} {m : ME} (h : MEok E w j m) (he : E.but E' k) (hj : j ≠ k) (hm : m.has k = false) : MEok E' w j m := by
 have h1 := (he j hj).1
 have h2 := (he j hj).2
 cases m with
 | box cs t => simp only [MEok, h1, AV.map_but he hm]; exact h
 | sym cs t => simp only [MEok, h1]; exact h
 | own t es n xs => simp only [MEok, h1, h2]; exact h

structure Res where
 bs : List Nat
 φ : World → Prop
def Res.stable (R : Res) : Prop := ∀ w w' : World, R.φ w → (∀ b ∈ R.bs, w'.heap[b]? = w.heap[b]?) → R.φ w'

structure SS where
 tm : List (Nat × SV)
 me : List (Nat × ME)
 re : List Res

structure Cx where
 W0 : World
 X : List Nat
 N : Nat
def DefOk (W0 : World) (ds : List Deferred) (w : World) : Prop :=
 ∃ bs : List Nat, ds = bs.map (fun b => { target := .collected b, args := #[] }) ∧ bs.Nodup ∧ ∀ b ∈ bs, W0.heap.size ≤ b ∧ w.heap[b]? = some (Obj.deferred (some []))
def KD (w w' : World) : Prop := ∀ b : Nat, w.heap[b]? = some (Obj.deferred (some [])) → w'.heap[b]? = some (Obj.deferred (some []))
theorem DefOk.keep {W0 : World} {ds : List Deferred} {w w' : World} (h : DefOk W0 ds w) (k : KD w w') : DefOk W0 ds w' := let ⟨bs, h1, h2, h3⟩ := h; ⟨bs, h1, h2, fun b hb => ⟨(h3 b hb).1, k b (h3 b hb).2⟩⟩
theorem KD.refl (w : World) : KD w w := fun _ h => h
theorem KD.trans {a b c : World} (h : KD a b) (k : KD b c) : KD a c := fun x hx => k x (h x hx)
structure Bel (B : Nat) (w w' : World) : Prop where
 os : w'.os = w.os
 tape : w'.tape = w.tape
 output : w'.output = w.output
 size : w.heap.size ≤ w'.heap.size
 block : ∀ k, k < B → w'.heap[k]? = w.heap[k]?
 drawn : w.drawn ≤ w'.drawn
theorem Bel.b {B : Nat} {w w' : World} (h : Bel B w w') : Below B w w' := ⟨h.os, h.tape, h.output, h.size, h.block⟩
theorem Bel.refl (B : Nat) (w : World) : Bel B w w := ⟨rfl, rfl, rfl, Nat.le_refl _, fun _ _ => rfl, Nat.le_refl _⟩
theorem Bel.new (w : World) (o : Obj) : Bel w.heap.size w (w.alloc o) := ⟨rfl, rfl, rfl, by simp, fun k hk => Below.heap_alloc _ _ _ hk, Nat.le_refl _⟩
theorem viewStore_drawn {p : Program} {w : World} {a : Addr} {u : TypeId} {k : Addr} {v : Value} {at_ : Bool} {r : World × List Addr} (h : w.viewStore p a u k v at_ = .ok r) : r.1.drawn = w.drawn := by
 unfold World.viewStore at h
 simp only [bind, Except.bind, pure, Except.pure, throwThe, MonadExceptOf.throw, MonadExcept.throw] at h
 repeat' split at h
 all_goals first | (cases h; done) | (cases h; rfl)
theorem ask_drawn {α : Type} : ∀ (s : Ask α) (w : World), w.drawn ≤ (w.ask s).2.drawn
 | .done a, w => Nat.le_refl _
 | .ask what range k, w => by
   unfold World.ask
   dsimp only
   split
   · exact ask_drawn (k 0) w
   · exact Nat.le_trans (Nat.le_succ _) (ask_drawn (k _) { w with drawn := w.drawn + 1 })
theorem sys_drawn (w : World) (c : Sys) : w.drawn ≤ (w.sys c).2.drawn := by
 unfold World.sys
 have := ask_drawn (Kernel.perform c w.os) w
 split
 · exact Nat.le_refl _
 · rename_i h; rw [h] at this; exact this
theorem run_drawn {α : Type} {P : Program} (s : Sem α) : ∀ {w w' : World} {a : α}, s.run P w = .ok a w' → w.drawn ≤ w'.drawn := by
 induction s with
 | pure a => intro w w' b h; cases h; exact Nat.le_refl _
 | load m a k ih =>
   intro w w' b h
   simp only [Sem.run] at h
   split at h
   · exact ih _ h
   · split at h
     · exact ih _ h
     · cases h
 | store m a v k ih =>
   intro w w' b h
   have key : (∀ xs, v ≠ .agg xs) → (∀ xs, v ≠ .tuple xs) → w.drawn ≤ w'.drawn := fun h1 h2 => by
     have h3 : (Sem.store m a v k).run P w = match w.cell? a with
         | some _ => if w.frozen? a then .halt (.unsupported (.unsafePointer "a write to bytes that a string shares")) w else k.run P (w.setCell a v)
         | none => match w.farStore P a v (m == .atomic) with
           | .ok (w, _) => k.run P w
           | .error h => .halt h w := by
       cases v with
       | agg xs => exact absurd rfl (h1 xs)
       | tuple xs => exact absurd rfl (h2 xs)
       | _ => rfl
     rw [h3] at h
     split at h
     · split at h
       · cases h
       · exact Nat.le_trans (Nat.le_refl (w.setCell a v).drawn) (ih h)
     · split at h
       · rename_i w1 l hf
         refine Nat.le_trans (Nat.le_of_eq ?_) (ih h)
         unfold World.farStore at hf
         split at hf
         · split at hf
           · rename_i r hv
             cases hf
             exact (viewStore_drawn hv).symm
           · cases hf
         · cases hf
       · cases h
   cases v with
   | agg xs => cases h
   | tuple xs => cases h
   | _ => exact key (by intro xs h; cases h) (by intro xs h; cases h)
 | new o k ih => intro w w' b h; exact Nat.le_trans (Nat.le_refl w.drawn) (ih w.heap.size (w := { w with heap := w.heap.push o }) h)
 | shape r k ih => intro w w' b h; exact ih _ h
 | freeze a n k ih =>
   intro w w' b h
   refine Nat.le_trans (Nat.le_of_eq ?_) (ih h)
   unfold World.freeze; split <;> rfl
 | frozen a k ih => intro w w' b h; exact ih _ h
 | getObj r k ih =>
   intro w w' b h
   simp only [Sem.run] at h
   split at h
   · cases h
   · exact ih _ h
   · cases h
 | setObj r o k ih =>
   intro w w' b h
   simp only [Sem.run] at h
   split at h
   · cases h
   · exact Nat.le_trans (Nat.le_refl w.drawn) (ih (w := { w with heap := w.heap.setIfInBounds r o }) h)
   · cases h
 | choose q k ih =>
   intro w w' b h
   simp only [Sem.run] at h
   split at h
   · exact ih _ h
   · exact Nat.le_trans (Nat.le_succ _) (ih _ h)
 | sys c k ih => intro w w' b h; exact Nat.le_trans (sys_drawn w c) (ih _ h)
 | program k ih => intro w w' b h; exact ih _ h
 | mark m k ih => intro w w' b h; exact ih h
 | halt h => intro w w' b h; cases h
theorem KD.below {w w' : World} (h : Bel w.heap.size w w') : KD w w' := fun b hb => (h.block b (Array.getElem?_eq_some_iff.1 hb).1).trans hb
structure Ext (X : List Nat) (W0 w : World) : Prop where
 os : w.os = W0.os
 tape : w.tape = W0.tape
 output : w.output = W0.output
 size : W0.heap.size ≤ w.heap.size
 block : ∀ k, k < W0.heap.size → k ∉ X → w.heap[k]? = W0.heap[k]?
 drawn : W0.drawn ≤ w.drawn
theorem Ext.refl (X : List Nat) (w : World) : Ext X w w := ⟨rfl, rfl, rfl, Nat.le_refl _, fun _ _ _ => rfl, Nat.le_refl _⟩
theorem Ext.below {W0 w : World} (h : Ext [] W0 w) : Bel W0.heap.size W0 w := ⟨h.os, h.tape, h.output, h.size, fun k hk => h.block k hk (by simp), h.drawn⟩
theorem Ext.step {X : List Nat} {W0 w w' : World} (h : Ext X W0 w) (k : Bel w.heap.size w w') : Ext X W0 w' :=
 ⟨k.os.trans h.os, k.tape.trans h.tape, k.output.trans h.output, Nat.le_trans h.size k.size, fun b hb hx => (k.block b (Nat.lt_of_lt_of_le hb h.size)).trans (h.block b hb hx), Nat.le_trans h.drawn k.drawn⟩

def objKept : Obj → Bool
 | .deferred _ => false
 | _ => true
def IsC (w : World) (b : Nat) : Prop := ∃ o, w.heap[b]? = some o ∧ objKept o = true
theorem IsC.cells {w : World} {b : Nat} {cs : Array Value} {t : TypeId} {fr : Nat × Nat} (h : w.heap[b]? = some (Obj.cells cs t fr)) : IsC w b := ⟨_, h, rfl⟩
theorem IsC.lt {w : World} {b : Nat} (h : IsC w b) : b < w.heap.size := let ⟨_, h, _⟩ := h; (Array.getElem?_eq_some_iff.1 h).1
theorem IsC.keep {w w' : World} {b : Nat} (h : IsC w b) (k : w'.heap[b]? = w.heap[b]?) : IsC w' b := let ⟨o, h, h2⟩ := h; ⟨o, k.trans h, h2⟩

structure MemOk (C : Cx) (E : Env) (me : List (Nat × ME)) (re : List Res) (w : World) : Prop where
 ent : ∀ k m, lk k me = some m → MEok E w k m
 ge : ∀ k m b, lk k me = some m → E.β k = some b → (C.W0.heap.size ≤ b ∨ b ∈ C.X) ∧ b < w.heap.size
 inj : ∀ k k' m m' b, lk k me = some m → lk k' me = some m' → E.β k = some b → E.β k' = some b → k = k'
 res : ∀ R ∈ re, R.stable ∧ R.φ w ∧ ∀ b ∈ R.bs, IsC w b ∧ ∀ k m, lk k me = some m → E.β k ≠ some b
 ext : Ext C.X C.W0 w
 /-- The rows that were handed over to be written keep their names. -/
 rig : ∀ j b m, C.X[j]? = some b → lk (C.N + j) me = some m → E.β (C.N + j) = some b

structure SRE (C : Cx) (E : Env) (st : SS) (a : Act) (w : World) : Prop where
 size : a.tmps.size = C.N
 defers : DefOk C.W0 a.defers w
 tm : ∀ i sv, lk i st.tm = some sv → a.tmps[i]? = some (sv.real E)
 mem : MemOk C E st.me st.re w
def SR (C : Cx) (st : SS) (a : Act) (w : World) : Prop := ∃ E, SRE C E st a w

def ev (st : SS) : Operand → Option SV
 | .tmp t => lk t st.tm
 | .const v => some (.o (.v v))
 | .global g => some (.o (.v (.pointer (some ⟨g, 0, none⟩))))
 | .func f => some (.o (.v (.func (.func f) #[] #[])))

theorem ev_ok {C : Cx} {E : Env} {st : SS} {a : Act} {w : World} (h : SRE C E st a w) {x : Operand} {sv : SV} (hx : ev st x = some sv) : a.eval x = sv.real E := by
 cases x with
 | tmp t =>
   have := h.tm t sv hx
   simp [Act.eval, this]
 | const v => simp only [ev, Option.some.injEq] at hx; subst hx; rfl
 | global g => simp only [ev, Option.some.injEq] at hx; subst hx; rfl
 | func f => simp only [ev, Option.some.injEq] at hx; subst hx; rfl

inductive LK where
 | b
 | s
 | i (k : IntKind)
 deriving DecidableEq
structure TyE where
 size : Nat
 bytes : Nat
 desc : TypeDesc
 zero : Value
 eqv : Option (List LK) := none
abbrev TT := List (Nat × TyE)
structure TyOk (P : Program) (t : TypeId) (e : TyE) : Prop where
 info : (P.info? t).map (fun i => (i.size, i.bytes, i.zero)) = some (e.size, e.bytes, some e.zero)
 und : P.underlying t = some e.desc
def isAggD : TypeDesc → Bool
 | .struct _ => true
 | .array _ _ => true
 | _ => false

section
variable {P : Program} {t : TypeId} {e : TyE} {w : World}
theorem TyOk.run_info (h : TyOk P t e) : ∃ i, (typeInfo t).run P w = .ok i w ∧ i.size = e.size ∧ i.bytes = e.bytes ∧ i.zero = some e.zero := by
 have h1 := h.info
 cases hi : P.info? t with
 | none => rw [hi] at h1; cases h1
 | some i =>
   rw [hi] at h1
   simp only [Option.map_some, Option.some.injEq, Prod.mk.injEq] at h1
   exact ⟨i, by simp [typeInfo, go_sem, hi], h1.1, h1.2.1, h1.2.2⟩
theorem TyOk.run_size (h : TyOk P t e) : (sizeOf t).run P w = .ok e.size w := by
 obtain ⟨i, h1, h2, _⟩ := h.run_info (w := w)
 unfold sizeOf
 rw [Sem.run_bind, h1]
 simp [go_sem, h2]
theorem TyOk.run_und (h : TyOk P t e) : (underlying t).run P w = .ok e.desc w := by
 simp [underlying, go_sem, h.und]
theorem TyOk.run_zero (h : TyOk P t e) : (zeroValue t).run P w = .ok e.zero w := by
 obtain ⟨i, h1, _, _, h2⟩ := h.run_info (w := w)
 unfold zeroValue
 rw [Sem.run_bind, h1]
 simp [go_sem, h2]
theorem TyOk.run_isAgg (h : TyOk P t e) : (isAgg t).run P w = .ok (isAggD e.desc) w := by
 unfold isAgg
 rw [Sem.run_bind, h.run_und]
 cases he : e.desc <;> simp [go_sem, isAggD]
end
end Go.Sx
end
section
/- A symbolic executor over loaded Go code: the operations that yield one value. -/
namespace Go.Sx
open Go Go.RowKit

def nth {α : Type} : Nat → List α → Option α
 | _, [] => none
 | 0, x :: _ => some x
 | n + 1, _ :: r => nth n r
theorem nth_eq {α : Type} : ∀ (n : Nat) (l : List α), nth n l = l[n]?
 | n, [] => by cases n <;> rfl
 | 0, x :: r => rfl
 | n + 1, x :: r => by simp [nth, nth_eq n r]
def dropN {α : Type} : Nat → List α → List α
 | 0, l => l
 | _ + 1, [] => []
 | n + 1, _ :: r => dropN n r
theorem dropN_eq {α : Type} : ∀ (n : Nat) (l : List α), dropN n l = l.drop n
 | 0, l => rfl
 | n + 1, [] => by simp [dropN]
 | n + 1, x :: r => by simp [dropN, dropN_eq n r]
def takeN {α : Type} : Nat → List α → Option (List α)
 | 0, _ => some []
 | _ + 1, [] => none
 | n + 1, x :: r => match takeN n r with
   | some l => some (x :: l)
   | none => none
theorem takeN_eq {α : Type} : ∀ {n : Nat} {l l' : List α}, takeN n l = some l' → l' = l.take n ∧ l'.length = n
 | 0, l, l', h => by simp only [takeN, Option.some.injEq] at h; subst h; simp
 | n + 1, [], l', h => by simp [takeN] at h
 | n + 1, x :: r, l', h => by
   simp only [takeN] at h
   cases hr : takeN n r with
   | none => rw [hr] at h; cases h
   | some l => rw [hr] at h; cases h; have := takeN_eq hr; simp [this.1]; simpa [this.1] using this.2

abbrev DR := Option (Option Prop × Option ME × SV)
def dv (x : Value) : DR := some (none, none, .o (.v x))
def dw (x : SV) : DR := some (none, none, x)
def dwf (x : SV) : DR := match x with
 | .o (.v y) => some (none, none, .o (.v y))
 | .o y => some (none, none, .o y)
 | .a l => some (none, none, .a l)
theorem dwf_eq (x : SV) : dwf x = dw x := by
 unfold dwf dw
 split <;> rfl
def dc (c : Prop) (x : Value) : DR := some (some c, none, .o (.v x))
def dcw (c : Prop) (x : SV) : DR := some (some c, none, x)
def SS.has (st : SS) (k : Nat) : Bool := st.tm.any (fun e => e.2.has k) || st.me.any (fun e => Nat.beq e.1 k || e.2.has k)
def dn (st : SS) (d : Nat) (m : ME) (x : SV) : DR := bif st.has d then none else some (none, some m, x)

def sb (s : ByteArray) (i : Int) : Int := ((s[i.toNat]?.getD 0).toNat : Int)

def intOp (op : BinOp) (k k' : IntKind) (a b : Int) : DR :=
 match op with
 | .shl => dc (0 ≤ b) (.int k (k.wrap (a * 2 ^ min b.toNat k.bits)))
 | .shr => dc (0 ≤ b) (.int k (a.fdiv (2 ^ min b.toNat k.bits)))
 | op => bif decide (k = k') then
   (match op with
   | .add => dv (.int k (k.wrap (a + b)))
   | .sub => dv (.int k (k.wrap (a - b)))
   | .mul => dv (.int k (k.wrap (a * b)))
   | .quo => dc (b ≠ 0) (.int k (k.wrap (a.tdiv b)))
   | .rem => dc (b ≠ 0) (.int k (a.tmod b))
   | .and => dv (.int k (k.wrap (BitVec.ofInt k.bits a &&& BitVec.ofInt k.bits b).toNat))
   | .or => dv (.int k (k.wrap (BitVec.ofInt k.bits a ||| BitVec.ofInt k.bits b).toNat))
   | .xor => dv (.int k (k.wrap (BitVec.ofInt k.bits a ^^^ BitVec.ofInt k.bits b).toNat))
   | .andNot => dv (.int k (k.wrap (BitVec.ofInt k.bits a &&& ~~~BitVec.ofInt k.bits b).toNat))
   | .eql => dv (.bool (a == b))
   | .neq => dv (.bool (a != b))
   | .lss => dv (.bool (decide (a < b)))
   | .leq => dv (.bool (decide (a ≤ b)))
   | .gtr => dv (.bool (decide (a > b)))
   | .geq => dv (.bool (decide (a ≥ b)))
   | _ => none) else none

def strOp (op : BinOp) (a b : ByteArray) : DR :=
 match op with
 | .eql => dv (.bool (a.toList == b.toList))
 | .neq => dv (.bool (!(a.toList == b.toList)))
 | .lss => dv (.bool (Op.bytesLess a.toList b.toList))
 | .gtr => dv (.bool (!(Op.bytesLess a.toList b.toList || a.toList == b.toList)))
 | .add => dc (((a.size + b.size : Nat) : Int) ≤ IntKind.i64.max) (.string (a ++ b))
 | _ => none

def eqL : List LK → List Value → List Value → Option Bool
 | [], [], [] => some true
 | .b :: ks, .bool a :: r, .bool b :: s => match eqL ks r s with
   | some c => some ((a == b) && c)
   | none => none
 | .s :: ks, .string a :: r, .string b :: s => match eqL ks r s with
   | some c => some ((a.toList == b.toList) && c)
   | none => none
 | .i k :: ks, .int k1 a :: r, .int k2 b :: s => match eqL ks r s with
   | some c => bif decide (k = k1) && decide (k = k2) then some ((a == b) && c) else none
   | none => none
 | _, _, _ => none

def EqLaw (P : Program) (t : TypeId) (ks : List LK) : Prop := ∀ (xs ys : Array Value) (r : Bool) (x y : Operand) (w : World), eqL ks xs.toList ys.toList = some r →
 (do eqGuard .eql t x y (.agg xs) (.agg ys); binOp .eql t (.agg xs) (.agg ys) : Sem Value).run P w = .ok (.bool r) w ∧
 (do eqGuard .neq t x y (.agg xs) (.agg ys); binOp .neq t (.agg xs) (.agg ys) : Sem Value).run P w = .ok (.bool (!r)) w

def capsOf (st : SS) : List Operand → Option (List CP)
 | [] => some []
 | x :: r => match ev st x, capsOf st r with
   | some (.o (.p k off)), some l => bif Nat.beq off 0 then some (.l k :: l) else none
   | some (.o (.v y)), some l => some (.e y :: l)
   | _, _ => none

def boxed (st : SS) (k : Nat) : Bool := match lk k st.me with
 | some (.box _ _) => true
 | some (.sym _ _) => true
 | _ => false

def ownN (st : SS) (k : Nat) : Option Nat := match lk k st.me with
 | some (.own _ _ n _) => some n
 | _ => none

def fld (d : TypeDesc) (f : Nat) : Option Field := match d with
 | .struct fs => nth f fs.toList
 | _ => none

def putN {α : Type} : Nat → List α → List α → List α
 | _, [], l => l
 | 0, x :: xs, _ :: r => x :: putN 0 xs r
 | 0, _ :: _, [] => []
 | n + 1, xs@(_ :: _), y :: r => y :: putN n xs r
 | _ + 1, _ :: _, [] => []

def fillS (st : SS) (place : Nat → Option (Nat × Nat)) : List (Nat × Operand) → List AV → Option (List AV)
 | [], cs => some cs
 | (i, x) :: r, cs => match place i, ev st x with
   | some (off, size), some sv => bif Nat.beq sv.cells.length size && Nat.ble (off + size) cs.length then fillS st place r (putN off sv.cells cs) else none
   | _, _ => none

def place (T : TT) (d : TypeDesc) (i : Nat) : Option (Nat × Nat) :=
 match d with
 | .struct fs => match nth i fs.toList with
   | some f => match lk f.type T with
     | some e => some (f.offset, e.size)
     | none => none
   | none => none
 | .array _ el => match lk el T with
   | some e => some (i * e.size, e.size)
   | none => none
 | _ => none

def allT (T : TT) : TypeDesc → Bool
 | .struct fs => fs.toList.all fun f => (lk f.type T).isSome
 | .array _ el => (lk el T).isSome
 | _ => false

def repl {α : Type} : Nat → List α → List α
 | 0, _ => []
 | n + 1, l => l ++ repl n l

def mxI (a b : Int) : Int := if b > a then b else a
def bltin (st : SS) (b : Builtin) (ts : List TypeId) (T : TT) (args : List (Option SV)) : DR :=
 match b, ts, args with
 | .len, t :: _, [some (.o x)] => match lk t T with
   | some e => match e.desc, x with
     | .string, .v (.string s) => dv (.int .i64 s.size)
     | .array n _, _ => dv (.int .i64 n)
     | .slice _, .v (.slice _ n _) => dv (.int .i64 n)
     | .slice _, .s _ _ n _ => dv (.int .i64 n)
     | .slice _, .w k => match lk k st.me with
       | some (.own _ _ n _) => dv (.int .i64 n)
       | _ => none
     | _, _ => none
   | none => none
 | .max, _, [some (.o (.v (.int k a))), some (.o (.v (.int _ b)))] => dv (.int k (if b > a then b else a))
 | .min, _, [some (.o (.v (.int k a))), some (.o (.v (.int _ b)))] => dv (.int k (if b < a then b else a))
 | .max, _, [some (.o (.v (.int k a))), some (.o (.v (.int _ b))), some (.o (.v (.int _ c))), some (.o (.v (.int _ d)))] => dv (.int k (mxI (mxI (mxI a b) c) d))
 | _, _, _ => none

def toI : Option SV → Option Int
 | some (.o (.v (.int _ n))) => some n
 | _ => none

def dop (T : TT) (st : SS) (d : Nat) (op : Op) : DR :=
 match op with
 | .move x => match ev st x with
   | some sv => dw sv
   | none => none
 | .assign x => match ev st x with
   | some sv => dw sv
   | none => none
 | .pick c a b => match ev st c with
   | some (.o (.v (.bool bb))) => match bb with
     | true => match ev st a with
       | some sv => dw sv
       | none => none
     | false => match ev st b with
       | some sv => dw sv
       | none => none
   | _ => none
 | .alloc t => match lk t T with
   | some e => dn st d (.box (e.zero.cells.toList.map AV.v) t) (.o (.p d 0))
   | none => none
 | .box t x => match ev st x with
   | some sv => dn st d (.box sv.cells t) (.o (.p d 0))
   | none => none
 | .build t parts => match lk t T with
   | some e => bif allT T e.desc then (match fillS st (place T e.desc) parts.toList (e.zero.cells.toList.map AV.v) with
     | some cs => dwf (mkA cs)
     | none => none) else none
   | none => none
 | .buildSlice t n parts => match lk t T with
   | some e => match e.desc with
     | .slice el => match lk el T with
       | some ee => bif Nat.ble (n * ee.size) 1000 && Nat.beq ee.zero.cells.toList.length ee.size then
         (match fillS st (fun i => some (i * ee.size, ee.size)) parts.toList (repl n (ee.zero.cells.toList.map AV.v)) with
         | some cs => dn st d (.box cs el) (.o (.s d 0 n n))
         | none => none) else none
       | none => none
     | _ => none
   | none => none
 | .load t x => match lk t T, ev st x with
   | some e, some (.o (.p k off)) => match lk k st.me with
     | some (.box cs _) => match takeN e.size (dropN off cs) with
       | some l => bif isAggD e.desc then dwf (mkA l) else (match l with
         | [y] => dw (.o y)
         | _ => none)
       | none => none
     | _ => none
   | _, _ => none
 | .binOp op t x y _ => match ev st x, ev st y with
   | some (.o (.v (.int k a))), some (.o (.v (.int k' b))) => intOp op k k' a b
   | some (.o (.v (.string a))), some (.o (.v (.string b))) => strOp op a b
   | some (.o (.v (.bool a))), some (.o (.v (.bool b))) => match lk t T, op with
     | some e, .eql => match e.desc with
       | .bool => dv (.bool (a == b))
       | _ => none
     | some e, .neq => match e.desc with
       | .bool => dv (.bool (!(a == b)))
       | _ => none
     | _, _ => none
   | some (.o (.v (.agg xs))), some (.o (.v (.agg ys))) => match lk t T with
     | some e => match e.eqv with
       | some ks => match op, eqL ks xs.toList ys.toList with
         | .eql, some r => dv (.bool r)
         | .neq, some r => dv (.bool (!r))
         | _, _ => none
       | none => none
     | none => none
   | some (.o (.v (.slice A _ _))), some (.o (.v (.slice none _ _))) => match lk t T, op with
     | some e, .eql => match e.desc with
       | .slice _ => dv (.bool A.isNone)
       | _ => none
     | some e, .neq => match e.desc with
       | .slice _ => dv (.bool (!A.isNone))
       | _ => none
     | _, _ => none
   | _, _ => none
 | .unOp op _ x => match op, ev st x with
   | .not, some (.o (.v (.bool b))) => dv (.bool (!b))
   | .neg, some (.o (.v (.int k n))) => dv (.int k (k.wrap (0 - n)))
   | .xor, some (.o (.v (.int k n))) => dv (.int k (k.wrap (BitVec.ofInt k.bits (if k.signed then -1 else k.max) ^^^ BitVec.ofInt k.bits n).toNat))
   | _, _ => none
 | .convert s t x => match lk s T, lk t T, ev st x with
   | some _, some e, some (.o (.v (.int _ n))) => match e.desc with
     | .int k => dv (.int k (k.wrap n))
     | _ => none
   | some es, some e, some (.o (.v (.string b))) => match es.desc, e.desc with
     | .string, .string => dv (.string b)
     | _, _ => none
   | _, _, _ => none
 | .makeFunc (.func f) first captured => match first.toList, capsOf st captured.toList with
   | [], some l => dw (.o (.clo f l))
   | _, _ => none
 | .fieldAddr s x f => match lk s T, ev st x with
   | some e, some (.o y) => match fld e.desc f with
     | some fd => match lk fd.type T with
       | some fe => bif Nat.beq fe.size 0 then none else (match y with
         | .p k off => bif boxed st k then dw (.o (.p k (off + fd.offset))) else (match ownN st k with
           | some n => dcw (0 < n) (.o (.p k (off + fd.offset)))
           | none => none)
         | .v (.pointer (some ⟨b, o, none⟩)) => dv (.pointer (some ⟨b, o + fd.offset, none⟩))
         | _ => none)
       | none => none
     | none => none
   | _, _ => none
 | .field s x f => match lk s T, ev st x with
   | some e, some sv => match fld e.desc f with
     | some fd => match lk fd.type T with
       | some fe => match sv with
         | .o (.v (.agg cs)) => match takeN fe.size (dropN fd.offset cs.toList) with
           | some l => bif isAggD fe.desc then dv (.agg ⟨l⟩) else (match l with
             | [y] => dv y
             | _ => none)
           | none => none
         | _ => none
       | none => none
     | none => none
   | _, _ => none
 | .indexAddr t x i => match lk t T, ev st x, toI (ev st i) with
   | some e, some (.o y), some j => match e.desc with
     | .array n el => match lk el T, y with
       | some ee, .p k off => bif boxed st k then dcw (0 ≤ j ∧ j < n) (.o (.p k (off + j.toNat * ee.size))) else none
       | _, _ => none
     | .slice el => match lk el T, y with
       | some ee, .s k off n _ => bif boxed st k then dcw (0 ≤ j ∧ j < n) (.o (.p k (off + j.toNat * ee.size))) else none
       | some ee, .v (.slice A n _) => dc (0 ≤ j ∧ j < n ∧ A.isSome = true) (.pointer (A.map fun a => a.add (j.toNat * ee.size)))
       | some ee, .w k => match lk k st.me with
         | some (.own _ _ n _) => dcw (0 ≤ j ∧ j < n) (.o (.p k (j.toNat * ee.size)))
         | _ => none
       | _, _ => none
     | _ => none
   | _, _, _ => none
 | .index t x i => match lk t T, ev st x, toI (ev st i) with
   | some e, some (.o (.v y)), some j => match e.desc, y with
     | .string, .string s => dc (0 ≤ j ∧ j < s.size) (.int .u8 (sb s j))
     | .array n el, .agg cs => match lk el T with
       | some ee => match takeN ee.size (dropN (j.toNat * ee.size) cs.toList) with
         | some l => bif isAggD ee.desc then dc (0 ≤ j ∧ j < n) (.agg ⟨l⟩) else (match l with
           | [z] => dc (0 ≤ j ∧ j < n) z
           | _ => none)
         | none => none
       | none => none
     | _, _ => none
   | _, _, _ => none
 | .slice t x lo hi mx => match lk t T, ev st x, mx with
   | some e, some (.o (.v (.string s))), none => match e.desc with
     | .string => match (match lo with | some l => toI (ev st l) | none => some 0), (match hi with | some h => toI (ev st h) | none => some (s.size : Int)) with
       | some l, some h => dc (0 ≤ l ∧ l ≤ h ∧ h ≤ s.size) (.string (s.extract l.toNat h.toNat))
       | _, _ => none
     | _ => none
   | some e, some (.o (.v (.slice A n c))), none => match e.desc with
     | .slice el => match lk el T, (match lo with | some l => toI (ev st l) | none => some 0), (match hi with | some h => toI (ev st h) | none => some (n : Int)) with
       | some ee, some l, some h => dc (0 ≤ l ∧ l ≤ h ∧ h ≤ c) (.slice (if c = l.toNat then A else A.map (·.add (l.toNat * ee.size))) (h.toNat - l.toNat) (c - l.toNat))
       | _, _, _ => none
     | _ => none
   | some e, some (.o (.v (.slice A n c))), some mm => match e.desc, lo, hi with
     | .slice el, none, some hh => match lk el T, toI (ev st hh), toI (ev st mm) with
       | some _, some h, some m => dc (0 ≤ h ∧ h ≤ m ∧ m ≤ c) (.slice A h.toNat m.toNat)
       | _, _, _ => none
     | _, _, _ => none
   | _, _, _ => none
 | .extract x i => match ev st x with
   | some (.o y) => match y with
     | .tu vs => match nth i vs with
       | some v => dw (.o v.av)
       | none => none
     | .v z => match z with
       | .tuple vs => match nth i vs.toList with
         | some v => dv v
         | none => none
       | _ => none
     | _ => none
   | _ => none
 | .call ⟨.builtin b, args, ts⟩ => bltin st b ts.toList T (args.toList.map (ev st))
 | _ => none

end Go.Sx
end
section
/- A symbolic executor over loaded Go code: the one-value operations do what the machine does. -/
namespace Go.Sx
open Go Go.RowKit

def TTgood (P : Program) (T : TT) : Prop := ∀ t e, lk t T = some e → TyOk P t e ∧ (∀ ks, e.eqv = some ks → EqLaw P t ks)

def Env.set (E : Env) (d b : Nat) : Env := { β := fun j => if j = d then some b else E.β j, ω := E.ω }
theorem Env.set_but (E : Env) (d b : Nat) : E.but (E.set d b) d := fun j h => by simp [Env.set, h]
theorem Env.set_self (E : Env) (d b : Nat) : (E.set d b).β d = some b := by simp [Env.set]

theorem lk_mem {α : Type} : ∀ {i : Nat} {x : α} {l : List (Nat × α)}, lk i l = some x → (i, x) ∈ l
 | i, x, [], h => by simp [lk] at h
 | i, x, (j, y) :: r, h => by
   rw [lk_cons] at h
   split at h
   · rename_i e; subst e; cases h; exact List.mem_cons_self
   · exact List.mem_cons_of_mem _ (lk_mem h)

theorem SS.has_tm {st : SS} {k i : Nat} {sv : SV} (h : st.has k = false) (hi : lk i st.tm = some sv) : sv.has k = false := by
 simp only [SS.has, Bool.or_eq_false_iff, List.any_eq_false] at h
 simpa using h.1 _ (lk_mem hi)
theorem SS.has_me {st : SS} {k i : Nat} {m : ME} (h : st.has k = false) (hi : lk i st.me = some m) : i ≠ k ∧ m.has k = false := by
 simp only [SS.has, Bool.or_eq_false_iff, List.any_eq_false] at h
 have := h.2 _ (lk_mem hi)
 simp only [Bool.or_eq_true, not_or, Bool.not_eq_true] at this
 exact ⟨beq_false.1 this.1, this.2⟩
theorem ev_has {st : SS} {k : Nat} {x : Operand} {sv : SV} (h : st.has k = false) (hx : ev st x = some sv) : sv.has k = false := by
 cases x with
 | tmp t => exact SS.has_tm h hx
 | const v => simp only [ev, Option.some.injEq] at hx; subst hx; rfl
 | global g => simp only [ev, Option.some.injEq] at hx; subst hx; rfl
 | func f => simp only [ev, Option.some.injEq] at hx; subst hx; rfl

theorem SV.cells_has {k : Nat} {sv : SV} (h : sv.has k = false) : sv.cells.any (AV.has k) = false := by
 cases sv with
 | o x =>
   cases x <;> simp_all [SV.cells, SV.has, AV.has]
 | a xs => exact h

def Does (P : Program) (E : Env) (st : SS) (d : Nat) (a : Act) (w : World) (o : Oper) (m : Option ME) (sv : SV) : Prop :=
 match m with
 | none => (execOp a.eval o).run P w = .ok (.value (sv.real E)) w ∧ ∀ k, st.has k = false → sv.has k = false
 | some m => ∃ cs t, m = .box cs t ∧ st.has d = false ∧ (∀ k, st.has k = false → cs.any (AV.has k) = false) ∧
     (execOp a.eval o).run P w = .ok (.value (sv.real (E.set d w.heap.size))) (w.alloc (.cells (cs.map (AV.real E)).toArray t)) ∧ (∀ k, k ≠ d → sv.has k = false)

section
variable {P : Program} {T : TT} {C : Cx} {E : Env} {st : SS} {a : Act} {w : World}

theorem does_val {d : Nat} {o : Oper} {x : Value} (h : (execOp a.eval o).run P w = .ok (.value x) w) : Does P E st d a w o none (.o (.v x)) := ⟨h, fun _ _ => rfl⟩

theorem intOp_ok {op : BinOp} {k k' : IntKind} {x y : Int} {c : Option Prop} {m : Option ME} {sv : SV} (h : intOp op k k' x y = some (c, m, sv)) (hc : ∀ p, c = some p → p) :
   m = none ∧ ∃ v, sv = .o (.v v) ∧ ∀ t, (binOp op t (.int k x) (.int k' y)).run P w = .ok v w := by
 cases op
 case shl =>
   cases h
   have hb := hc _ rfl
   refine ⟨rfl, _, rfl, fun t => ?_⟩
   simp only [binOp, Op.shift]
   rw [if_neg (by omega)]; rfl
 case shr =>
   cases h
   have hb := hc _ rfl
   refine ⟨rfl, _, rfl, fun t => ?_⟩
   simp only [binOp, Op.shift]
   rw [if_neg (by omega)]; rfl
 all_goals
   by_cases e : k = k'
   case neg => simp [intOp, e] at h
   subst e
   simp only [intOp, dv, dc, decide_true, cond_true, Option.some.injEq, Prod.mk.injEq] at h
   obtain ⟨rfl, rfl, rfl⟩ := h
   first
   | (have hb := hc _ rfl
      refine ⟨rfl, _, rfl, fun t => ?_⟩
      simp only [binOp, Op.intDiv, ne_eq, not_true_eq_false, if_false]
      rw [if_neg hb]; rfl)
   | (refine ⟨rfl, _, rfl, fun t => ?_⟩
      simp [binOp, Op.intArith, Op.intBits, Op.intCmp, go_sem])

theorem strOp_ok {op : BinOp} {x y : ByteArray} {c : Option Prop} {m : Option ME} {sv : SV} (h : strOp op x y = some (c, m, sv)) (hc : ∀ p, c = some p → p) :
   m = none ∧ ∃ v, sv = .o (.v v) ∧ ∀ t, (binOp op t (.string x) (.string y)).run P w = .ok v w := by
 cases op <;> simp only [strOp, dv, dc] at h <;> cases h
 case add =>
   have hb := hc _ rfl
   refine ⟨rfl, _, rfl, fun t => ?_⟩
   simp only [binOp, Op.stringOp]
   rw [if_neg (by omega)]; rfl
 all_goals
   refine ⟨rfl, _, rfl, fun t => ?_⟩
   simp [binOp, Op.stringOp, go_sem]

theorem run_eqGuard_int (op : BinOp) (t : TypeId) (x y : Operand) (k : IntKind) (n : Int) (v : Value) : eqGuard op t x y (.int k n) v = pure () := by cases op <;> rfl
theorem run_eqGuard_str (op : BinOp) (t : TypeId) (x y : Operand) (s : ByteArray) (v : Value) : eqGuard op t x y (.string s) v = pure () := by cases op <;> rfl
theorem run_eqGuard_bool (op : BinOp) (t : TypeId) (x y : Operand) (s : Bool) (v : Value) : eqGuard op t x y (.bool s) v = pure () := by cases op <;> rfl

theorem cell_of {b : Nat} {cs : Array Value} {t : TypeId} {fr : Nat × Nat} {w : World} (h : w.heap[b]? = some (.cells cs t fr)) (off : Nat) : w.cell? ⟨b, off, none⟩ = cs[off]? := by
 simp [World.cell?, h]

theorem run_loadVar {t : TypeId} {e : TyE} (ht : TyOk P t e) {b off : Nat} {l : List Value} (hl : l.length = e.size)
   (hc : ∀ j v, l[j]? = some v → w.cell? ⟨b, off + j, none⟩ = some v) :
   (loadVar t ⟨b, off, none⟩).run P w = if isAggD e.desc then .ok (.agg l.toArray) w else match l with | [y] => .ok y w | _ => (loadVar t ⟨b, off, none⟩).run P w := by
 by_cases hg : isAggD e.desc = true
 · rw [if_pos hg]
   unfold loadVar
   rw [Sem.run_bind, ht.run_isAgg, hg]
   simp only [Result.andThen]
   simp only [if_true]
   rw [Sem.run_bind, ht.run_size]
   simp only [Result.andThen]
   rw [← hl, Sem.run_bind]
   rw [run_loadCells_list _ _ l (fun j v hj => by rw [Addr.add_lit]; exact hc j v hj)]
   rfl
 · rw [if_neg hg]
   split
   · rename_i y
     unfold loadVar
     rw [Sem.run_bind, ht.run_isAgg]
     simp only [Result.andThen]
     rw [if_neg hg]
     have := hc 0 y rfl
     simp only [Nat.add_zero] at this
     simp [load, Sem.run, this]
   · rfl


theorem capsOf_ok (h : SRE C E st a w) : ∀ {l : List Operand} {cs : List CP}, capsOf st l = some cs → l.map a.eval = cs.map (CP.real E) ∧ ∀ k, st.has k = false → cs.any (CP.has k) = false
 | [], cs, hl => by simp only [capsOf, Option.some.injEq] at hl; subst hl; simp
 | x :: r, cs, hl => by
   simp only [capsOf] at hl
   split at hl
   · rename_i k off l hx hr
     have ih := capsOf_ok h hr
     by_cases ho : off = 0
     · subst ho
       simp only [Nat.beq_refl, cond_true, Option.some.injEq] at hl
       subst hl
       refine ⟨by simp [ih.1, ev_ok h hx, SV.real, AV.real, CP.real], fun j hj => ?_⟩
       have := ev_has hj hx
       simp only [List.any_cons, ih.2 j hj, Bool.or_false]
       exact this
     · rw [beq_false.2 ho] at hl; cases hl
   · rename_i y l hx hr
     have ih := capsOf_ok h hr
     cases hl
     exact ⟨by simp [ih.1, ev_ok h hx, SV.real, AV.real, CP.real], fun j hj => by simp [ih.2 j hj, CP.has]⟩
   · cases hl

theorem fld_ok {d : TypeDesc} {f : Nat} {fd : Field} (h : fld d f = some fd) : ∃ fs, d = .struct fs ∧ fs[f]? = some fd := by
 cases d <;> simp only [fld] at h <;> try (cases h; done)
 rename_i fs
 refine ⟨fs, rfl, ?_⟩
 rw [nth_eq] at h
 simpa using h

theorem any_take {α : Type} {p : α → Bool} {l : List α} (n : Nat) (h : l.any p = false) : (l.take n).any p = false := by
 rw [List.any_eq_false] at *
 exact fun x hx => h x (List.mem_of_mem_take hx)
theorem any_drop {α : Type} {p : α → Bool} {l : List α} (n : Nat) (h : l.any p = false) : (l.drop n).any p = false := by
 rw [List.any_eq_false] at *
 exact fun x hx => h x (List.mem_of_mem_drop hx)

theorem foldl_put : ∀ (xs : List Value) (l : List Value) (off : Nat), off + xs.length ≤ l.length →
   ((xs.zipIdx).foldl (fun (cs : Array Value) (p : Value × Nat) => cs.setIfInBounds (off + p.2) p.1) l.toArray) = (putN off xs l).toArray := by
 have key : ∀ (xs : List Value) (l : List Value) (off i : Nat), off + i + xs.length ≤ l.length →
     ((xs.zipIdx i).foldl (fun (cs : Array Value) (p : Value × Nat) => cs.setIfInBounds (off + p.2) p.1) l.toArray) = (putN (off + i) xs l).toArray := by
   intro xs
   induction xs with
   | nil => intro l off i _; cases l <;> cases h : off + i <;> simp [putN]
   | cons x xs ih =>
     intro l off i h
     simp only [List.length_cons] at h
     simp only [List.zipIdx_cons, List.foldl_cons, List.setIfInBounds_toArray]
     rw [ih _ _ _ (by simp; omega)]
     congr 1
     have : ∀ (n : Nat) (x : Value) (xs l : List Value), n < l.length → putN (n + 1) xs (l.set n x) = putN n (x :: xs) l := by
       intro n
       induction n with
       | zero =>
         intro x xs l hl
         cases l with
         | nil => simp at hl
         | cons y l => cases xs <;> simp [putN]
       | succ n ihn =>
         intro x xs l hl
         cases l with
         | nil => simp at hl
         | cons y l =>
           cases xs with
           | nil => simp only [List.set_cons_succ, putN]; rw [← ihn x [] l (by simpa using hl)]; cases (l.set n x) <;> simp [putN]
           | cons z xs => simp only [List.set_cons_succ, putN]; rw [← ihn x (z :: xs) l (by simpa using hl)]
     rw [← Nat.add_assoc]
     exact this (off + i) x xs l (by omega)
 intro xs l off h
 exact key xs l off 0 (by omega)

theorem putN_map {α β : Type} (f : α → β) : ∀ (off : Nat) (xs l : List α), (putN off xs l).map f = putN off (xs.map f) (l.map f)
 | off, [], l => by cases off <;> cases l <;> rfl
 | 0, x :: xs, [] => rfl
 | 0, x :: xs, y :: l => by simp [putN, putN_map f 0 xs l]
 | n + 1, x :: xs, [] => rfl
 | n + 1, x :: xs, y :: l => by simp only [putN, List.map_cons, putN_map f n (x :: xs) l]
theorem putN_any {α : Type} {p : α → Bool} : ∀ (off : Nat) (xs l : List α), xs.any p = false → l.any p = false → (putN off xs l).any p = false
 | off, [], l, _, h => by cases off <;> cases l <;> exact h
 | 0, x :: xs, [], _, _ => rfl
 | 0, x :: xs, y :: l, h1, h2 => by
   simp only [List.any_cons, Bool.or_eq_false_iff] at h1 h2
   simp [putN, h1.1, putN_any 0 xs l h1.2 h2.2]
 | n + 1, x :: xs, [], _, _ => rfl
 | n + 1, x :: xs, y :: l, h1, h2 => by
   have h3 := h2
   simp only [List.any_cons, Bool.or_eq_false_iff] at h2
   simp only [putN, List.any_cons, h2.1, Bool.false_or]
   exact putN_any n (x :: xs) l h1 h2.2

theorem fillS_ok (h : SRE C E st a w) {pl pl' : Nat → Option (Nat × Nat)} (hpl : ∀ i x, pl i = some x → pl' i = some x) : ∀ {ps : List (Nat × Operand)} {cs cs' : List AV}, fillS st pl ps cs = some cs' →
   Instr.fill pl' (cs.map (AV.real E)).toArray (ps.map fun p => (p.1, a.eval p.2)) = some (cs'.map (AV.real E)).toArray ∧
   (∀ k, st.has k = false → cs.any (AV.has k) = false → cs'.any (AV.has k) = false)
 | [], cs, cs', hf => by simp only [fillS, Option.some.injEq] at hf; subst hf; simp [Instr.fill]
 | (i, x) :: r, cs, cs', hf => by
   simp only [fillS] at hf
   split at hf
   · rename_i off size sv hp hx
     by_cases hc : (Nat.beq sv.cells.length size && Nat.ble (off + size) cs.length) = true
     · rw [hc] at hf
       simp only [cond_true] at hf
       simp only [Bool.and_eq_true] at hc
       have h1 := Nat.eq_of_beq_eq_true hc.1
       have h2 := Nat.le_of_ble_eq_true hc.2
       have ih := fillS_ok h hpl hf
       have hcell := SV.cells_real E sv
       have hlen : (sv.real E).cells.size = size := by rw [← Array.length_toList, hcell]; simp [h1]
       refine ⟨?_, fun k hk hcs => ih.2 k hk (putN_any _ _ _ (SV.cells_has (ev_has hk hx)) hcs)⟩
       simp only [List.map_cons, Instr.fill, hpl _ _ hp, ev_ok h hx]
       have hno : ¬ ((sv.real E).cells.size ≠ size ∨ off + (sv.real E).cells.size > (List.map (AV.real E) cs).toArray.size) := by simp; omega
       simp only [Bool.or_eq_true, decide_eq_true_eq]
       rw [if_neg (by simpa using hno)]
       have := foldl_put (sv.real E).cells.toList (cs.map (AV.real E)) off (by simp; omega)
       have e2 : (Array.foldl (fun cs x => cs.setIfInBounds (off + x.2) x.1) (List.map (AV.real E) cs).toArray (sv.real E).cells.zipIdx) = (putN off (sv.real E).cells.toList (cs.map (AV.real E))).toArray := by
         rw [← this, ← Array.foldl_toList, Array.toList_zipIdx]
       rw [e2, hcell, ← putN_map]
       exact ih.1
     · rw [Bool.not_eq_true] at hc
       rw [hc] at hf; cases hf
   · cases hf

end
end Go.Sx
end
section
/- A symbolic executor over loaded Go code: one operation, shown. -/
namespace Go.Sx
open Go Go.RowKit

section
variable {P : Program} {T : TT} {C : Cx} {E : Env} {st : SS} {a : Act} {w : World}

theorem dn_inv {d : Nat} {m0 : ME} {x : SV} {c : Option Prop} {m : Option ME} {sv : SV} (h : dn st d m0 x = some (c, m, sv)) : st.has d = false ∧ m = some m0 ∧ sv = x := by
 unfold dn at h
 cases hs : st.has d <;> rw [hs] at h
 · simp only [cond_false, Option.some.injEq, Prod.mk.injEq] at h
   exact ⟨rfl, h.2.1.symm, h.2.2.symm⟩
 · cases h

theorem mapM_places (hT : TTgood P T) : ∀ (fs : List Field), (∀ f ∈ fs, ∃ e, lk f.type T = some e) →
   (fs.mapM (m := Sem) fun f => do pure (f.offset, ← sizeOf f.type)).run P w = .ok (fs.map fun f => (f.offset, P.cellsOf f.type)) w
 | [], _ => rfl
 | f :: fs, h => by
   obtain ⟨e, he⟩ := h f (List.mem_cons_self)
   have ht := (hT _ _ he).1
   have hsz : e.size = P.cellsOf f.type := by
     have := ht.info
     unfold Program.cellsOf
     cases hi : P.info? f.type with
     | none => rw [hi] at this; cases this
     | some i => rw [hi] at this; simp only [Option.map_some, Option.some.injEq, Prod.mk.injEq] at this; simp [this.1]
   rw [List.mapM_cons, Sem.run_bind, Sem.run_bind, ht.run_size]
   simp only [Result.andThen, Sem.run_pure]
   rw [Sem.run_bind, mapM_places hT fs (fun g hg => h g (List.mem_cons_of_mem _ hg))]
   simp only [Result.andThen, Sem.run_pure, List.map_cons, hsz]


theorem cellsOf_ok {t : TypeId} {e : TyE} (ht : TyOk P t e) : P.cellsOf t = e.size := by
 have := ht.info
 unfold Program.cellsOf
 cases hi : P.info? t with
 | none => rw [hi] at this; cases this
 | some i => rw [hi] at this; simp only [Option.map_some, Option.some.injEq, Prod.mk.injEq] at this; simp [this.1]

theorem zero_cells (e : TyE) (E : Env) : (e.zero.cells.toList.map AV.v).map (AV.real E) = e.zero.cells.toList := by
 rw [List.map_map]
 have : (AV.real E ∘ AV.v) = id := rfl
 rw [this, List.map_id]
theorem any_v (k : Nat) (l : List Value) : (l.map AV.v).any (AV.has k) = false := by
 rw [List.any_eq_false]; intro x hx; obtain ⟨y, _, rfl⟩ := List.mem_map.1 hx; simp [AV.has]

theorem run_build_ok (hT : TTgood P T) (h : SRE C E st a w) {t : TypeId} {e : TyE} (he : lk t T = some e) (hall : allT T e.desc = true) {ps : Array (Nat × Operand)} {cs : List AV}
   (hf : fillS st (place T e.desc) ps.toList (e.zero.cells.toList.map AV.v) = some cs) :
   (Instr.build t (ps.map fun p => (p.1, a.eval p.2))).run P w = .ok (.agg (cs.map (AV.real E)).toArray) w ∧ ∀ k, st.has k = false → cs.any (AV.has k) = false := by
 have ht := (hT _ _ he).1
 unfold Instr.build
 rw [Sem.run_bind, ht.run_zero]
 simp only [Result.andThen]
 rw [Sem.run_bind, ht.run_und]
 simp only [Result.andThen]
 have hz : e.zero.cells = ((e.zero.cells.toList.map AV.v).map (AV.real E)).toArray := by rw [zero_cells]
 cases hd : e.desc with
 | struct fs =>
   rw [hd] at hf hall
   simp only [allT, List.all_eq_true] at hall
   have hpl : ∀ i x, place T (.struct fs) i = some x → (fs.toList.map fun f => (f.offset, P.cellsOf f.type)).toArray[i]? = some x := by
     intro i x hx
     simp only [place] at hx
     split at hx
     · rename_i f hn
       rw [nth_eq] at hn
       split at hx
       · rename_i ee hee
         cases hx
         simp only [List.getElem?_toArray, List.getElem?_map, hn, Option.map_some, cellsOf_ok (hT _ _ hee).1]
       · cases hx
     · cases hx
   have hk := fillS_ok h (pl' := fun i => (fs.toList.map fun f => (f.offset, P.cellsOf f.type)).toArray[i]?) hpl hf
   refine ⟨?_, fun k hk' => hk.2 k hk' (any_v _ _)⟩
   simp only []
   have hm : ∀ {α β : Type} (f : α → β) (x : Sem α) (w : World), (f <$> x).run P w = (x.run P w).andThen fun y w' => .ok (f y) w' := by
     intro α β f x w
     show (x >>= fun y => pure (f y)).run P w = _
     rw [Sem.run_bind]; rfl
   rw [Sem.run_bind, Array.mapM_eq_mapM_toList, hm, mapM_places hT fs.toList (fun f hf => Option.isSome_iff_exists.1 (hall f hf))]
   simp only [Result.andThen]
   rw [hz, Array.toList_map, hk.1]
   rfl
 | array n el =>
   rw [hd] at hf hall
   simp only [allT] at hall
   obtain ⟨ee, hee⟩ := Option.isSome_iff_exists.1 hall
   have hpl : ∀ i x, place T (.array n el) i = some x → (fun i => some (i * ee.size, ee.size)) i = some x := by
     intro i x hx
     simp only [place, hee] at hx
     exact hx
   have hk := fillS_ok h (pl' := fun i => some (i * ee.size, ee.size)) hpl hf
   refine ⟨?_, fun k hk' => hk.2 k hk' (any_v _ _)⟩
   simp only []
   rw [Sem.run_bind, (hT _ _ hee).1.run_size]
   simp only [Result.andThen]
   rw [hz, Array.toList_map, hk.1]
   rfl
 | _ => rw [hd] at hall; cases hall


theorem run_do {o : Oper} {s : Sem Value} {v : Value} {w w' : World} {ρ : Operand → Value} (h : execOp ρ o = (do pure (.value (← s)) : Sem Next)) (hs : s.run P w = .ok v w') : (execOp ρ o).run P w = .ok (.value v) w' := by
 rw [h, Sem.run_bind, hs]; rfl

theorem load_ok (hT : TTgood P T) (h : SRE C E st a w) {t : TypeId} {x : Operand} {e : TyE} {k off : Nat} {cs l : List AV} {ty : TypeId}
   (he : lk t T = some e) (hx : ev st x = some (.o (.p k off))) (hm : lk k st.me = some (.box cs ty)) (hl : takeN e.size (dropN off cs) = some l) :
   (Instr.loadAt t (a.eval x)).run P w = (if isAggD e.desc then .ok (.agg (l.map (AV.real E)).toArray) w else match l with | [y] => .ok (y.real E) w | _ => (Instr.loadAt t (a.eval x)).run P w) := by
 obtain ⟨b, hb, hcells⟩ := h.mem.ent _ _ hm
 have hl' := takeN_eq hl
 rw [dropN_eq] at hl'
 have hev : a.eval x = .pointer (some ⟨b, off, none⟩) := by rw [ev_ok h hx]; simp [SV.real, AV.real, hb]
 rw [hev]
 have hrun : (Instr.loadAt t (.pointer (some ⟨b, off, none⟩))).run P w = (loadVar t ⟨b, off, none⟩).run P w := by
   unfold Instr.loadAt Instr.sureAddr
   rw [Sem.run_bind]; rfl
 rw [hrun]
 have hv := run_loadVar (hT _ _ he).1 (b := b) (off := off) (w := w) (l := l.map (AV.real E)) (by simp [hl'.2]) (fun j v hj => by
   rw [cell_of hcells]
   rw [hl'.1] at hj
   simp only [List.getElem?_map, List.getElem?_take, List.getElem?_drop] at hj
   simp only [List.getElem?_toArray, List.getElem?_map]
   split at hj
   · exact hj
   · simp at hj)
 rw [hv]
 split
 · rfl
 · rcases l with _ | ⟨y, _ | ⟨z, r⟩⟩ <;> rfl

theorem pload_ok {cs l : List AV} {off n : Nat} (hl : takeN n (dropN off cs) = some l) {k : Nat} (hk : cs.any (AV.has k) = false) : l.any (AV.has k) = false := by
 rw [(takeN_eq hl).1, dropN_eq]
 exact any_take _ (any_drop _ hk)

theorem Does.val {d : Nat} {o : Oper} {sv : SV} (h1 : (execOp a.eval o).run P w = .ok (.value (sv.real E)) w) (h2 : ∀ k, st.has k = false → sv.has k = false) : Does P E st d a w o none sv := ⟨h1, h2⟩

theorem toI_ok (h : SRE C E st a w) {x : Operand} {n : Int} (hx : toI (ev st x) = some n) : ∃ k, a.eval x = .int k n := by
 unfold toI at hx
 split at hx
 · rename_i k m he
   cases hx
   exact ⟨k, by rw [ev_ok h he]; rfl⟩
 · cases hx

theorem repl_map {α β : Type} (f : α → β) : ∀ (n : Nat) (l : List α), (repl n l).map f = repl n (l.map f)
 | 0, _ => rfl
 | n + 1, l => by simp [repl, repl_map f n l]
theorem repl_any {α : Type} {p : α → Bool} : ∀ (n : Nat) {l : List α}, l.any p = false → (repl n l).any p = false
 | 0, _, _ => rfl
 | n + 1, l, h => by rw [repl, List.any_append, h, repl_any n h]; rfl
theorem repl_length {α : Type} : ∀ (n : Nat) (l : List α), (repl n l).length = n * l.length
 | 0, l => by simp [repl]
 | n + 1, l => by simp [repl, repl_length n l, Nat.succ_mul, Nat.add_comm]
theorem repl_get {α : Type} : ∀ (n : Nat) (l : List α) (i : Nat), i < n * l.length → (repl n l)[i]? = l[i % l.length]?
 | 0, l, i, h => by simp at h
 | n + 1, l, i, h => by
   rw [repl]
   by_cases hi : i < l.length
   · rw [List.getElem?_append_left hi, Nat.mod_eq_of_lt hi]
   · have h0 : 0 < l.length := by
       rcases Nat.eq_zero_or_pos l.length with h0 | h0
       · rw [h0] at h; simp at h
       · exact h0
     rw [List.getElem?_append_right (by omega), repl_get n l _ (by rw [Nat.succ_mul] at h; omega), ← Nat.mod_eq_sub_mod (by omega)]

theorem run_newRow (el : TypeId) (cs : Array Value) : (newRow el cs).run P w = .ok ⟨w.heap.size, 0, none⟩ (w.alloc (.cells cs el)) := by
 unfold newRow newObj
 rw [Sem.run_bind]; rfl

end
end Go.Sx
end
section
/- A symbolic executor over loaded Go code: every one-value operation, shown. -/
namespace Go.Sx
open Go Go.RowKit

section
variable {P : Program} {T : TT} {C : Cx} {E : Env} {st : SS} {a : Act} {w : World}

theorem has_p {k d off : Nat} (h : k ≠ d) : (SV.o (.p d off)).has k = false := beq_false.2 fun e => h e.symm
theorem has_s {k d off n m : Nat} (h : k ≠ d) : (SV.o (.s d off n m)).has k = false := beq_false.2 fun e => h e.symm
theorem run_slice_nil {t el : TypeId} (ht : P.underlying t = some (.slice el)) (A : Option Addr) (n c m k : Nat) (x y : Operand) (w : World) :
   (do eqGuard .eql t x y (.slice A n c) (.slice none m k); binOp .eql t (.slice A n c) (.slice none m k) : Sem Value).run P w = .ok (.bool A.isNone) w ∧
   (do eqGuard .neq t x y (.slice A n c) (.slice none m k); binOp .neq t (.slice A n c) (.slice none m k) : Sem Value).run P w = .ok (.bool (!A.isNone)) w := by
 have h1 : (Op.equalIn 10000 t (.slice A n c) (.slice none m k)).run P w = .ok A.isNone w := by
   rw [show (10000 : Nat) = 9999 + 1 from rfl, Op.equalIn]
   simp only [Sem.run_bind, run_underlying ht, Result.andThen_ok]
   cases A <;> simp
 constructor
 · simp only [eqGuard, binOp, Op.equal, Op.maxDepth, Sem.run_bind]
   simp [h1]
 · simp only [eqGuard, binOp, Op.equal, Op.maxDepth, Sem.run_bind]
   simp [h1]
theorem boxed_ok (h : SRE C E st a w) {k : Nat} (hk : boxed st k = true) : ∃ b, E.β k = some b := by
 unfold boxed at hk
 split at hk
 · rename_i hm; obtain ⟨b, hb, _⟩ := h.mem.ent _ _ hm; exact ⟨b, hb⟩
 · rename_i hm; obtain ⟨b, hb, _⟩ := h.mem.ent _ _ hm; exact ⟨b, hb⟩
 · cases hk

theorem ownN_ok (h : SRE C E st a w) {k n : Nat} (hk : ownN st k = some n) (hn : 0 < n) : ∃ b, E.β k = some b := by
 unfold ownN at hk
 split at hk
 · rename_i hm
   cases hk
   obtain ⟨_, _, ⟨_, _, h0⟩ | ⟨b, cur, hb, _⟩⟩ := own_cases (h.mem.ent _ _ hm)
   · omega
   · exact ⟨b, hb⟩
 · cases hk

theorem run_part {t : TypeId} {e : TyE} (ht : TyOk P t e) {cs : Array Value} {off : Nat} {l : List Value} (hl : takeN e.size (dropN off cs.toList) = some l) :
   (part t cs off).run P w = if isAggD e.desc then .ok (.agg l.toArray) w else match l with | [y] => .ok y w | _ => (part t cs off).run P w := by
 have hl' := takeN_eq hl
 rw [dropN_eq] at hl'
 by_cases hg : isAggD e.desc = true
 · rw [if_pos hg]
   unfold part
   rw [Sem.run_bind, ht.run_isAgg, hg]
   simp only [Result.andThen]
   simp only [if_true]
   rw [Sem.run_bind, ht.run_size]
   simp only [Result.andThen, Sem.run_pure]
   congr 2
   apply Array.ext'
   rw [hl'.1, Array.toList_extract]
   simp [List.extract, List.take_drop]
 · rw [if_neg hg]
   rcases l with _ | ⟨y, _ | ⟨z, r⟩⟩
   · rfl
   · unfold part
     rw [Sem.run_bind, ht.run_isAgg]
     simp only [Result.andThen]
     rw [if_neg hg]
     have h0 : cs[off]? = some y := by
       have h1 : (cs.toList.drop off).take e.size = [y] := hl'.1.symm
       have h2 : ((cs.toList.drop off).take e.size)[0]? = some y := by rw [h1]; rfl
       rw [List.getElem?_take] at h2
       split at h2
       · simpa using h2
       · cases h2
     rw [h0]
     rfl
   · rfl

theorem run_indexAt_slice {t el : TypeId} {e ee : TyE} (ht : TyOk P t e) (hd : e.desc = .slice el) (hee : TyOk P el ee) {b : Addr} {n cap : Nat} {k : IntKind} {j : Int} (hj : 0 ≤ j ∧ j < n) :
   (Instr.indexAt t (.slice (some b) n cap) (.int k j)).run P w = .ok (.pointer (some (b.add (j.toNat * ee.size)))) w := by
 have hu := ht.und
 rw [hd] at hu
 have hs := hee.run_size (w := w)
 simp [Instr.indexAt, asIntOf, run_underlying hu, hs, hj.1, hj.2]
theorem run_indexAt_array {t el : TypeId} {e ee : TyE} {n : Nat} (ht : TyOk P t e) (hd : e.desc = .array n el) (hee : TyOk P el ee) {b : Addr} {k : IntKind} {j : Int} (hj : 0 ≤ j ∧ j < n) :
   (Instr.indexAt t (.pointer (some b)) (.int k j)).run P w = .ok (.pointer (some (b.add (j.toNat * ee.size)))) w := by
 have hu := ht.und
 rw [hd] at hu
 have hs := hee.run_size (w := w)
 simp [Instr.indexAt, asIntOf, run_underlying hu, hs, hj.1, hj.2, Instr.sureAddr]
theorem run_field_ok {s : TypeId} {e : TyE} {fs : Array Field} {fd : Field} {f : Nat} (ht : TyOk P s e) (hd : e.desc = .struct fs) (hf : fs[f]? = some fd) {cs : Array Value} :
   (Instr.field s (.agg cs) f).run P w = (part fd.type cs fd.offset).run P w := by
 have hu := ht.und
 rw [hd] at hu
 unfold Instr.field
 rw [Sem.run_bind, run_underlying hu]
 simp only [Result.andThen, hf]
 rfl
theorem has_off {st : SS} {k' k off off' : Nat} {x : Operand} (hk : st.has k' = false) (hx : ev st x = some (.o (.p k off))) : (SV.o (.p k off')).has k' = false := by have := ev_has hk hx; exact this
theorem has_off_s {st : SS} {k' k off off' n m : Nat} {x : Operand} (hk : st.has k' = false) (hx : ev st x = some (.o (.s k off n m))) : (SV.o (.p k off')).has k' = false := by have := ev_has hk hx; exact this
theorem has_off_w {st : SS} {k' k off' : Nat} {x : Operand} (hk : st.has k' = false) (hx : ev st x = some (.o (.w k))) : (SV.o (.p k off')).has k' = false := by have := ev_has hk hx; exact this

set_option maxHeartbeats 1000000 in
theorem run_bounds {P : Program} {w : World} (isSlice : Bool) (len cap : Nat) {lo hi : Option Value} {l h' : Int} (hl : (lo = none ∧ l = 0) ∨ ∃ k, lo = some (.int k l)) (hh : (hi = none ∧ h' = len) ∨ ∃ k, hi = some (.int k h')) (h0 : 0 ≤ l) (h1 : l ≤ h') (h2 : h' ≤ cap) :
   (Instr.sliceBounds isSlice len cap lo hi none).run P w = .ok (l.toNat, h'.toNat, cap) w := by
 have hb : ∀ (k : IntKind) (i : Int) (y : Nat) (c : BoundsCode), 0 ≤ i → i ≤ y → (Instr.sliceBound (.int k i) y c).run P w = .ok i.toNat w := by
   intro k i y c hi0 hi1
   unfold Instr.sliceBound
   rw [Sem.run_bind]
   simp only [asIntOf, Sem.run_pure, Result.andThen]
   rw [if_pos ⟨hi0, hi1⟩]
   rfl
 unfold Instr.sliceBounds
 rcases hl with ⟨rfl, rfl⟩ | ⟨kl, rfl⟩ <;> rcases hh with ⟨rfl, rfl⟩ | ⟨kh, rfl⟩
 · simp [Sem.run_bind, Result.andThen]
 · simp only [Sem.run_bind, Sem.run_pure, Result.andThen]
   cases isSlice <;> simp [hb kh h' cap _ (by omega) h2]
 · simp only [Sem.run_bind, Sem.run_pure, Result.andThen]
   rw [hb kl l len _ h0 h1]
   simp
 · simp only [Sem.run_bind, Sem.run_pure, Result.andThen]
   have := hb kl l h'.toNat .sliceB h0 (by omega)
   cases isSlice <;> simp [hb kh h' cap _ (by omega) h2, this]

theorem run_bounds3 {P : Program} {w : World} (len cap : Nat) {k1 k2 : IntKind} {h' m : Int} (h0 : 0 ≤ h') (h1 : h' ≤ m) (h2 : m ≤ cap) :
   (Instr.sliceBounds true len cap none (some (.int k1 h')) (some (.int k2 m))).run P w = .ok (0, h'.toNat, m.toNat) w := by
 have hb : ∀ (k : IntKind) (i : Int) (y : Nat) (c : BoundsCode), 0 ≤ i → i ≤ y → (Instr.sliceBound (.int k i) y c).run P w = .ok i.toNat w := by
   intro k i y c hi0 hi1
   unfold Instr.sliceBound
   rw [Sem.run_bind]
   simp only [asIntOf, Sem.run_pure, Result.andThen]
   rw [if_pos ⟨hi0, hi1⟩]
   rfl
 unfold Instr.sliceBounds
 simp only [Sem.run_bind, Sem.run_pure, Result.andThen]
 simp [hb k2 m cap _ (by omega) h2, hb k1 h' m.toNat _ h0 (by omega)]
theorem dop_sound (hT : TTgood P T) (h : SRE C E st a w) {o : Oper} {d : Nat} {c : Option Prop} {m : Option ME} {sv : SV}
   (hd : dop T st d o.op = some (c, m, sv)) (hc : ∀ p, c = some p → p) : Does P E st d a w o m sv := by
 obtain ⟨dst, op, type, pos, after, guard⟩ := o
 cases op <;> simp only at hd
 case move x =>
   simp only [dop] at hd
   split at hd
   · rename_i s hx; cases hd; exact Does.val (by rw [← ev_ok h hx]; rfl) (fun k hk => ev_has hk hx)
   · cases hd
 case assign x =>
   simp only [dop] at hd
   split at hd
   · rename_i s hx; cases hd; exact Does.val (by rw [← ev_ok h hx]; rfl) (fun k hk => ev_has hk hx)
   · cases hd
 case pick x y z =>
   simp only [dop] at hd
   split at hd
   · rename_i bb hx
     have hcx := ev_ok h hx
     cases bb <;> simp only at hd <;> split at hd
     · rename_i s hy; cases hd; exact Does.val (by simp only [execOp, hcx, SV.real, AV.real, asBool]; rw [Sem.run_bind, Sem.run_pure]; simp only [Result.andThen, ev_ok h hy, if_true, Bool.false_eq_true, if_false]; rfl) (fun k hk => ev_has hk hy)
     · cases hd
     · rename_i s hy; cases hd; exact Does.val (by simp only [execOp, hcx, SV.real, AV.real, asBool]; rw [Sem.run_bind, Sem.run_pure]; simp only [Result.andThen, ev_ok h hy, if_true, Bool.false_eq_true, if_false]; rfl) (fun k hk => ev_has hk hy)
     · cases hd
   · cases hd
 case alloc t =>
   simp only [dop] at hd
   split at hd
   · rename_i e he
     obtain ⟨h1, rfl, rfl⟩ := dn_inv hd
     refine ⟨_, _, rfl, h1, fun k _ => any_v _ _, ?_, fun k hk => has_p hk⟩
     refine run_do rfl ?_
     unfold Instr.alloc
     rw [Sem.run_bind, (hT _ _ he).1.run_zero]
     simp only [Result.andThen]
     rw [Sem.run_bind]
     unfold newVar
     rw [run_newRow, zero_cells]
     simp [Result.andThen, SV.real, AV.real, Env.set, go_sem]
   · cases hd
 case box t x =>
   simp only [dop] at hd
   split at hd
   · rename_i s hx
     obtain ⟨h1, rfl, rfl⟩ := dn_inv hd
     refine ⟨_, _, rfl, h1, fun k hk => SV.cells_has (ev_has hk hx), ?_, fun k hk => has_p hk⟩
     refine run_do rfl ?_
     unfold Instr.box
     rw [Sem.run_bind]
     unfold newVar
     rw [run_newRow, ev_ok h hx]
     have : (s.real E).cells = (s.cells.map (AV.real E)).toArray := by rw [← SV.cells_real]
     rw [this]
     simp [Result.andThen, SV.real, AV.real, Env.set, go_sem]
   · cases hd
 case build t ps =>
   simp only [dop] at hd
   split at hd
   · rename_i e he
     by_cases hall : allT T e.desc = true
     · rw [hall] at hd
       simp only [cond_true] at hd
       split at hd
       · rename_i cs hf
         rw [dwf_eq] at hd
         cases hd
         have := run_build_ok hT h he hall hf
         exact Does.val (run_do rfl (by rw [mkA_real]; exact this.1)) (fun k hk => mkA_has (this.2 k hk))
       · cases hd
     · rw [Bool.not_eq_true] at hall
       rw [hall] at hd; cases hd
   · cases hd
 case buildSlice t n ps =>
   simp only [dop] at hd
   split at hd
   · rename_i e he
     split at hd
     · rename_i el hdesc
       split at hd
       · rename_i ee hee
         by_cases hb : (Nat.ble (n * ee.size) 1000 && Nat.beq ee.zero.cells.toList.length ee.size) = true
         · rw [hb] at hd
           simp only [cond_true] at hd
           simp only [Bool.and_eq_true] at hb
           have hb1 := Nat.le_of_ble_eq_true hb.1
           have hb2 := Nat.eq_of_beq_eq_true hb.2
           split at hd
           · rename_i cs hf
             obtain ⟨h1, rfl, rfl⟩ := dn_inv hd
             have hk := fillS_ok h (pl' := fun i => some (i * ee.size, ee.size)) (fun _ _ h => h) hf
             refine ⟨_, _, rfl, h1, fun k hk' => hk.2 k hk' (repl_any _ (any_v _ _)), ?_, fun k hk => has_s hk⟩
             refine run_do rfl ?_
             unfold Instr.buildSlice
             rw [Sem.run_bind, (hT _ _ he).1.run_und, hdesc]
             simp only [Result.andThen]
             rw [Sem.run_bind, (hT _ _ hee).1.run_size]
             simp only [Result.andThen]
             rw [if_neg (by omega)]
             have hcells : ((Array.range (n * ee.size)).map fun x => (if n * ee.size = 0 then (#[] : Array Value) else ee.zero.cells)[x % (if n * ee.size = 0 then (#[] : Array Value) else ee.zero.cells).size]!) =
                 ((repl n (ee.zero.cells.toList.map AV.v)).map (AV.real E)).toArray := by
               rw [repl_map, zero_cells]
               by_cases h0 : n * ee.size = 0
               · rw [h0]
                 have : (repl n ee.zero.cells.toList).length = 0 := by rw [repl_length, hb2]; exact h0
                 rw [List.eq_nil_of_length_eq_zero this]
                 simp
               · simp only [h0, if_false]
                 apply Array.ext'
                 apply List.ext_getElem?
                 intro i
                 simp only [Array.toList_map, Array.toList_range, List.getElem?_map]
                 by_cases hi : i < n * ee.size
                 · rw [List.getElem?_range hi, repl_get _ _ _ (by rw [hb2]; exact hi)]
                   simp only [Option.map_some]
                   have hs : ee.zero.cells.size = ee.size := by rw [← hb2]; simp
                   have hlt : i % ee.size < ee.zero.cells.size := by rw [hs]; exact Nat.mod_lt _ (by rcases Nat.eq_zero_or_pos ee.size with h | h; (rw [h] at h0; simp at h0); exact h)
                   rw [hb2, hs]
                   simp [hlt]
                 · rw [List.getElem?_eq_none (by simp; omega), List.getElem?_eq_none (by rw [repl_length, hb2]; omega)]
                   rfl
             have hfin : ∀ (z : Array Value), z = (if n * ee.size = 0 then (#[] : Array Value) else ee.zero.cells) →
                 (Sem.run P (do
                   let some cells := Instr.fill (fun i => some (i * ee.size, ee.size)) ((Array.range (n * ee.size)).map (z[· % z.size]!)) (ps.map fun p => (p.1, a.eval p.2)).toList
                     | stuck "buildSlice: a part of the wrong size"
                   pure (Value.slice (some (← newRow el cells)) n n) : Sem Value) w) = .ok (Value.slice (some ⟨w.heap.size, 0, none⟩) n n) (w.alloc (.cells (cs.map (AV.real E)).toArray el)) := by
               intro z hz
               subst hz
               rw [hcells, Array.toList_map, hk.1]
               simp only []
               rw [Sem.run_bind, run_newRow]
               rfl
             by_cases h0 : n * ee.size = 0
             · rw [if_pos h0, Sem.run_bind]
               simp only [Sem.run_pure, Result.andThen]
               refine (hfin #[] (by rw [if_pos h0])).trans ?_
               simp [SV.real, AV.real, Env.set]
             · rw [if_neg h0, Sem.run_bind, (hT _ _ hee).1.run_zero]
               simp only [Result.andThen]
               rw [Sem.run_bind]
               simp only [Sem.run_pure, Result.andThen]
               refine (hfin ee.zero.cells (by rw [if_neg h0])).trans ?_
               simp [SV.real, AV.real, Env.set]
           · cases hd
         · rw [Bool.not_eq_true] at hb
           rw [hb] at hd; cases hd
       · cases hd
     · cases hd
   · cases hd
 case load t x =>
   simp only [dop] at hd
   split at hd
   · rename_i e k off he hx
     split at hd
     · rename_i cs ty hm
       split at hd
       · rename_i l hl
         have hr := load_ok hT h he hx hm hl
         have hk : ∀ k', st.has k' = false → l.any (AV.has k') = false := fun k' hk' => pload_ok hl (SS.has_me hk' hm).2
         by_cases hg : isAggD e.desc = true
         · rw [hg] at hd
           simp only [cond_true, dwf_eq] at hd
           cases hd
           rw [if_pos hg] at hr
           exact Does.val (run_do rfl (by rw [mkA_real]; exact hr)) (fun k' hk' => mkA_has (hk k' hk'))
         · rw [if_neg hg] at hr
           rw [Bool.not_eq_true] at hg
           rw [hg] at hd
           simp only [cond_false] at hd
           split at hd
           · rename_i y
             cases hd
             exact Does.val (run_do rfl hr) (fun k' hk' => by have := hk k' hk'; rw [List.any_cons, List.any_nil, Bool.or_false] at this; exact this)
           · cases hd
       · cases hd
     · cases hd
   · cases hd
 case binOp op t x y yt =>
   simp only [dop] at hd
   have hrun : ∀ {v : Value}, (do eqGuard op t x y (a.eval x) (a.eval y); binOp op t (a.eval x) (a.eval y) : Sem Value).run P w = .ok v w →
       (execOp a.eval ⟨dst, .binOp op t x y yt, type, pos, after, guard⟩).run P w = .ok (.value v) w := fun hv => run_do rfl hv
   split at hd
   · rename_i k n k' n' hx hy
     obtain ⟨rfl, v, rfl, hv⟩ := intOp_ok (P := P) (w := w) hd hc
     refine does_val (hrun ?_)
     rw [ev_ok h hx, ev_ok h hy]
     simp only [SV.real, AV.real, run_eqGuard_int]
     exact hv t
   · rename_i b b' hx hy
     obtain ⟨rfl, v, rfl, hv⟩ := strOp_ok (P := P) (w := w) hd hc
     refine does_val (hrun ?_)
     rw [ev_ok h hx, ev_ok h hy]
     simp only [SV.real, AV.real, run_eqGuard_str]
     exact hv t
   · rename_i b b' hx hy
     split at hd
     · rename_i e he
       split at hd
       · rename_i hdesc
         cases hd
         refine does_val (hrun ?_)
         rw [ev_ok h hx, ev_ok h hy]
         simp only [SV.real, AV.real, run_eqGuard_bool]
         exact run_eql_bool w t b b' ((hT _ _ he).1.und.trans (by rw [hdesc]))
       · cases hd
     · rename_i e he
       split at hd
       · rename_i hdesc
         cases hd
         refine does_val (hrun ?_)
         rw [ev_ok h hx, ev_ok h hy]
         simp only [SV.real, AV.real, run_eqGuard_bool]
         exact run_neq_bool w t b b' ((hT _ _ he).1.und.trans (by rw [hdesc]))
       · cases hd
     · cases hd
   · rename_i xs ys hx hy
     split at hd
     · rename_i e he
       split at hd
       · rename_i ks hks
         have hlaw := (hT _ _ he).2 ks hks
         split at hd
         · rename_i r hr
           cases hd
           refine does_val (hrun ?_)
           rw [ev_ok h hx, ev_ok h hy]
           exact (hlaw xs ys r x y w hr).1
         · rename_i r hr
           cases hd
           refine does_val (hrun ?_)
           rw [ev_ok h hx, ev_ok h hy]
           exact (hlaw xs ys r x y w hr).2
         · cases hd
       · cases hd
     · cases hd
   · rename_i A n c m k hx hy
     split at hd
     · rename_i e he
       split at hd
       · rename_i el hdesc
         cases hd
         refine does_val (hrun ?_)
         rw [ev_ok h hx, ev_ok h hy]
         exact (run_slice_nil ((hT _ _ he).1.und.trans (by rw [hdesc])) A n c m k x y w).1
       · cases hd
     · rename_i e he
       split at hd
       · rename_i el hdesc
         cases hd
         refine does_val (hrun ?_)
         rw [ev_ok h hx, ev_ok h hy]
         exact (run_slice_nil ((hT _ _ he).1.und.trans (by rw [hdesc])) A n c m k x y w).2
       · cases hd
     · cases hd
   · cases hd
 case unOp op t x =>
   simp only [dop] at hd
   split at hd
   · rename_i b hx
     cases hd
     refine does_val (run_do rfl ?_)
     rw [ev_ok h hx]; rfl
   · rename_i k n hx
     cases hd
     refine does_val (run_do rfl ?_)
     rw [ev_ok h hx]; rfl
   · rename_i k n hx
     cases hd
     refine does_val (run_do rfl ?_)
     rw [ev_ok h hx]; rfl
   · cases hd
 case convert s t x =>
   simp only [dop] at hd
   split at hd
   · rename_i es e k n hs he hx
     split at hd
     · rename_i k' hdesc
       cases hd
       refine does_val (run_do rfl ?_)
       rw [ev_ok h hx]
       unfold convert
       rw [Sem.run_bind, (hT _ _ hs).1.run_und]
       simp only [Result.andThen]
       rw [Sem.run_bind, (hT _ _ he).1.run_und, hdesc]
       rfl
     · cases hd
   · rename_i es e b hs he hx
     split at hd
     · rename_i h1 h2
       cases hd
       refine does_val (run_do rfl ?_)
       rw [ev_ok h hx]
       unfold convert
       rw [Sem.run_bind, (hT _ _ hs).1.run_und, h1]
       simp only [Result.andThen]
       rw [Sem.run_bind, (hT _ _ he).1.run_und, h2]
       rfl
     · cases hd
   · cases hd
 case makeFunc fn first captured =>
   cases fn with
   | func f =>
     simp only [dop] at hd
     split at hd
     · rename_i l hfirst hl
       cases hd
       have hk := capsOf_ok h hl
       refine Does.val (run_do rfl ?_) (fun k hk' => hk.2 k hk')
       have hf : first = #[] := Array.toList_inj.1 hfirst
       subst hf
       have e : captured.map a.eval = (l.map (CP.real E)).toArray := by rw [← hk.1]; apply Array.ext'; simp
       show Result.ok (Value.func (.func f) ((#[] : Array Operand).map a.eval) (captured.map a.eval)) w = _
       rw [e]
       simp [SV.real, AV.real]
     · cases hd
   | _ => simp [dop] at hd
 case fieldAddr s x f =>
   simp only [dop] at hd
   split at hd
   · rename_i e y he hx
     split at hd
     · rename_i fd hfd
       split at hd
       · rename_i fe hfe
         obtain ⟨fs, hdesc, hfs⟩ := fld_ok hfd
         by_cases hz : fe.size = 0
         · rw [beq_true.2 hz] at hd; cases hd
         · rw [beq_false.2 hz] at hd
           simp only [cond_false] at hd
           have hgo : ∀ (b o : Nat), a.eval x = .pointer (some ⟨b, o, none⟩) → (Instr.fieldAt s (a.eval x) f).run P w = .ok (.pointer (some ⟨b, o + fd.offset, none⟩)) w := by
             intro b o hev
             rw [hev]
             unfold Instr.fieldAt
             rw [Sem.run_bind, (hT _ _ he).1.run_und, hdesc]
             simp only [Result.andThen, hfs]
             rw [Sem.run_bind]
             simp only [Instr.sureAddr, Sem.run_pure, Result.andThen]
             rw [Sem.run_bind]
             unfold fieldPlace
             rw [Sem.run_bind, (hT _ _ hfe).1.run_size]
             simp only [Result.andThen]
             rw [if_neg hz]
             simp only [Sem.run_pure, Result.andThen, Addr.add_lit]
           split at hd
           · rename_i k off
             cases hbx : boxed st k with
             | false =>
               rw [hbx] at hd
               simp only [cond_false] at hd
               split at hd
               · rename_i n hon
                 cases hd
                 obtain ⟨b, hb⟩ := ownN_ok h hon (hc _ rfl)
                 refine Does.val (run_do rfl ?_) (fun k' hk' => has_off hk' hx)
                 have hev := ev_ok h hx
                 simp only [SV.real, AV.real, hb] at hev ⊢
                 exact hgo b off hev
               · cases hd
             | true =>
               rw [hbx] at hd
               cases hd
               obtain ⟨b, hb⟩ := boxed_ok h hbx
               refine Does.val (run_do rfl ?_) (fun k' hk' => has_off hk' hx)
               have hev := ev_ok h hx
               simp only [SV.real, AV.real, hb] at hev ⊢
               exact hgo b off hev
           · rename_i b o
             cases hd
             exact does_val (run_do rfl (hgo b o (ev_ok h hx)))
           · cases hd
       · cases hd
     · cases hd
   · cases hd
 case field s x f =>
   simp only [dop] at hd
   split at hd
   · rename_i e y he hx
     split at hd
     · rename_i fd hfd
       split at hd
       · rename_i fe hfe
         obtain ⟨fs, hdesc, hfs⟩ := fld_ok hfd
         split at hd
         · rename_i cs
           split at hd
           · rename_i l hl
             have hrun : (Instr.field s (a.eval x) f).run P w = (part fd.type cs fd.offset).run P w := by
               rw [ev_ok h hx]
               exact run_field_ok (hT _ _ he).1 hdesc hfs
             have hp := run_part (hT _ _ hfe).1 (w := w) hl
             by_cases hg : isAggD fe.desc = true
             · rw [hg] at hd; cases hd
               rw [if_pos hg] at hp
               exact does_val (run_do rfl (hrun.trans hp))
             · rw [if_neg hg] at hp
               rw [Bool.not_eq_true] at hg
               rw [hg] at hd
               simp only [cond_false] at hd
               split at hd
               · cases hd
                 exact does_val (run_do rfl (hrun.trans hp))
               · cases hd
           · cases hd
         · cases hd
       · cases hd
     · cases hd
   · cases hd
 case indexAddr t x i =>
   simp only [dop] at hd
   split at hd
   · rename_i e y j he hx hj
     obtain ⟨ki, hji⟩ := toI_ok h hj
     split at hd
     · rename_i n el hdesc
       split at hd
       · rename_i ee k off hee
         cases hbx : boxed st k with
         | false => rw [hbx] at hd; cases hd
         | true =>
           rw [hbx] at hd
           cases hd
           have hcond := hc _ rfl
           obtain ⟨b, hb⟩ := boxed_ok h hbx
           refine Does.val (run_do rfl ?_) (fun k' hk' => has_off hk' hx)
           have hev := ev_ok h hx
           simp only [SV.real, AV.real, hb, Option.map_some] at hev ⊢
           rw [hev, hji, run_indexAt_array (hT _ _ he).1 hdesc (hT _ _ hee).1 hcond, Addr.add_lit]
       · cases hd
     · rename_i el hdesc
       split at hd
       · rename_i ee k off n cap hee
         cases hbx : boxed st k with
         | false => rw [hbx] at hd; cases hd
         | true =>
           rw [hbx] at hd
           cases hd
           have hcond := hc _ rfl
           obtain ⟨b, hb⟩ := boxed_ok h hbx
           refine Does.val (run_do rfl ?_) (fun k' hk' => has_off_s hk' hx)
           have hev := ev_ok h hx
           simp only [SV.real, AV.real, hb, Option.map_some] at hev ⊢
           rw [hev, hji, run_indexAt_slice (hT _ _ he).1 hdesc (hT _ _ hee).1 hcond, Addr.add_lit]
       · rename_i ee A n cap hee
         cases hd
         obtain ⟨hc1, hc2, hc3⟩ := hc _ rfl
         refine does_val (run_do rfl ?_)
         rw [ev_ok h hx, hji]
         obtain ⟨b, rfl⟩ := Option.isSome_iff_exists.1 hc3
         exact run_indexAt_slice (hT _ _ he).1 hdesc (hT _ _ hee).1 ⟨hc1, hc2⟩
       · rename_i ee k hee
         split at hd
         · rename_i n xs hm
           cases hd
           have hcond := hc _ rfl
           obtain ⟨_, hn, ⟨_, _, h0⟩ | ⟨b, cur, hb, _⟩⟩ := own_cases (h.mem.ent _ _ hm)
           · omega
           · refine Does.val (run_do rfl ?_) (fun k' hk' => has_off_w hk' hx)
             have hev := ev_ok h hx
             simp only [SV.real, AV.real, hb, hn, Option.map_some] at hev ⊢
             rw [hev, hji, run_indexAt_slice (hT _ _ he).1 hdesc (hT _ _ hee).1 hcond, Addr.add_lit, Nat.zero_add]
         · cases hd
       · cases hd
     · cases hd
   · cases hd
 case index t x i =>
   simp only [dop] at hd
   split at hd
   · rename_i e y j he hx hj
     obtain ⟨ki, hji⟩ := toI_ok h hj
     split at hd
     · rename_i s hdesc
       cases hd
       obtain ⟨hc1, hc2⟩ := hc _ rfl
       refine does_val (run_do rfl ?_)
       rw [ev_ok h hx, hji]
       simp only [SV.real, AV.real]
       unfold Instr.index
       rw [Sem.run_bind]
       simp only [asIntOf, Sem.run_pure, Result.andThen]
       rw [Sem.run_bind, (hT _ _ he).1.run_und, hdesc]
       simp only [Result.andThen]
       rw [if_pos hc1]
       have hlt : j.toNat < s.size := by omega
       have hs : s[j.toNat]? = some s[j.toNat] := by simp [hlt]
       rw [hs]
       simp [sb, hs]
     · rename_i n el cs hdesc
       split at hd
       · rename_i ee hee
         split at hd
         · rename_i l hl
           have hp := run_part (hT _ _ hee).1 (w := w) hl
           have hrun : 0 ≤ j ∧ j < n → (Instr.index t (a.eval x) (a.eval i)).run P w = (part el cs (j.toNat * ee.size)).run P w := by
             intro hcond
             rw [ev_ok h hx, hji]
             simp only [SV.real, AV.real]
             unfold Instr.index
             rw [Sem.run_bind]
             simp only [asIntOf, Sem.run_pure, Result.andThen]
             rw [Sem.run_bind, (hT _ _ he).1.run_und, hdesc]
             simp only [Result.andThen]
             rw [if_pos hcond, Sem.run_bind, (hT _ _ hee).1.run_size]
             rfl
           by_cases hg : isAggD ee.desc = true
           · rw [hg] at hd
             cases hd
             rw [if_pos hg] at hp
             exact does_val (run_do rfl ((hrun (hc _ rfl)).trans hp))
           · rw [if_neg hg] at hp
             rw [Bool.not_eq_true] at hg
             rw [hg] at hd
             simp only [cond_false] at hd
             split at hd
             · cases hd
               exact does_val (run_do rfl ((hrun (hc _ rfl)).trans hp))
             · cases hd
         · cases hd
       · cases hd
     · cases hd
   · cases hd
 case slice t x lo hi mx =>
   simp only [dop] at hd
   split at hd
   · rename_i e s he hx
     split at hd
     · rename_i hdesc
       split at hd
       · rename_i l hh hl hhh
         cases hd
         obtain ⟨hc1, hc2, hc3⟩ := hc _ rfl
         refine does_val (run_do rfl ?_)
         rw [ev_ok h hx]
         simp only [SV.real, AV.real]
         unfold Instr.sliceAt
         rw [Sem.run_bind, (hT _ _ he).1.run_und, hdesc]
         simp only [Result.andThen]
         unfold Instr.slice
         rw [Sem.run_bind, (hT _ _ he).1.run_und, hdesc]
         simp only [Result.andThen, Option.map_none, Option.isSome_none, Bool.false_eq_true, if_false]
         have hb : (Instr.sliceBounds false s.size s.size (lo.map a.eval) (hi.map a.eval) none).run P w = .ok (l.toNat, hh.toNat, s.size) w := by
           have hbd : ∀ (z : Operand) (n : Int) (y : Nat) (code : BoundsCode), toI (ev st z) = some n → 0 ≤ n ∧ n ≤ y → (Instr.sliceBound (a.eval z) y code).run P w = .ok n.toNat w := by
             intro z n y code hz hn
             obtain ⟨kz, hz⟩ := toI_ok h hz
             rw [hz]
             unfold Instr.sliceBound
             rw [Sem.run_bind]
             simp only [asIntOf, Sem.run_pure, Result.andThen]
             rw [if_pos hn]
             rfl
           cases lo with
           | none =>
             simp only [Option.some.injEq] at hl
             subst hl
             cases hi with
             | none =>
               simp only [Option.some.injEq] at hhh
               subst hhh
               simp [Instr.sliceBounds]
             | some z => simp [Instr.sliceBounds, hbd z hh s.size _ hhh ⟨by omega, hc3⟩]
           | some y =>
             cases hi with
             | none =>
               simp only [Option.some.injEq] at hhh
               subst hhh
               simp [Instr.sliceBounds, hbd y l s.size _ hl ⟨hc1, hc2⟩]
             | some z => simp [Instr.sliceBounds, hbd z hh s.size _ hhh ⟨by omega, hc3⟩, hbd y l hh.toNat _ hl ⟨hc1, by omega⟩]
         rw [Sem.run_bind, hb]
         rfl
       · cases hd
     · cases hd
   · rename_i e A n c he hx
     split at hd
     · rename_i el hdesc
       split at hd
       · rename_i ee l h' hee hl hh
         cases hd
         obtain ⟨hc1, hc2, hc3⟩ := hc _ rfl
         have hopt1 : (lo.map a.eval = none ∧ l = 0) ∨ ∃ k, lo.map a.eval = some (.int k l) := by
           cases lo with
           | none => simp only [Option.some.injEq] at hl; exact .inl ⟨rfl, hl.symm⟩
           | some z => obtain ⟨k, hk⟩ := toI_ok h hl; exact .inr ⟨k, by simp [hk]⟩
         have hopt2 : (hi.map a.eval = none ∧ h' = n) ∨ ∃ k, hi.map a.eval = some (.int k h') := by
           cases hi with
           | none => simp only [Option.some.injEq] at hh; exact .inl ⟨rfl, hh.symm⟩
           | some z => obtain ⟨k, hk⟩ := toI_ok h hh; exact .inr ⟨k, by simp [hk]⟩
         refine does_val (run_do rfl ?_)
         have hu := (hT _ _ he).1.run_und (w := w)
         rw [hdesc] at hu
         rw [ev_ok h hx]
         simp only [SV.real, AV.real]
         unfold Instr.sliceAt
         rw [Sem.run_bind, hu]
         simp only [Result.andThen]
         unfold Instr.slice
         rw [Sem.run_bind, hu]
         simp only [Result.andThen, Option.map_none]
         rw [Sem.run_bind, run_bounds true n c hopt1 hopt2 hc1 hc2 hc3]
         simp only [Result.andThen]
         rw [Sem.run_bind, (hT _ _ hee).1.run_size]
         simp only [Result.andThen, Sem.run_pure]
       · cases hd
     · cases hd
   · rename_i e A n c mm he hx
     split at hd
     · rename_i el hh hdesc
       split at hd
       · rename_i ee h' m hee hh' hm'
         cases hd
         obtain ⟨hc1, hc2, hc3⟩ := hc _ rfl
         obtain ⟨k1, hev1⟩ := toI_ok h hh'
         obtain ⟨k2, hev2⟩ := toI_ok h hm'
         refine does_val (run_do rfl ?_)
         have hu := (hT _ _ he).1.run_und (w := w)
         rw [hdesc] at hu
         rw [ev_ok h hx]
         simp only [SV.real, AV.real]
         unfold Instr.sliceAt
         rw [Sem.run_bind, hu]
         simp only [Result.andThen]
         unfold Instr.slice
         rw [Sem.run_bind, hu]
         simp only [Result.andThen, Option.map_none, Option.map_some, hev1, hev2]
         rw [Sem.run_bind, run_bounds3 n c hc1 hc2 hc3]
         simp only [Result.andThen]
         rw [Sem.run_bind, (hT _ _ hee).1.run_size]
         simp only [Result.andThen, Sem.run_pure]
         have hz : Option.map (fun x : Addr => x.add (0 * ee.size)) A = A := by
           cases A with
           | none => rfl
           | some z => simp [Addr.add]
         rw [hz]
         simp
       · cases hd
     · cases hd
   · cases hd
 case extract x i =>
   simp only [dop] at hd
   split at hd
   · rename_i y hx
     split at hd
     · rename_i vs
       split at hd
       · rename_i v hv
         cases hd
         refine Does.val (run_do rfl ?_) (fun k' hk' => ?_)
         · rw [ev_ok h hx]
           rw [nth_eq] at hv
           show _ = Result.ok (v.av.real E) w
           rw [TP.real_av]
           simp only [SV.real, AV.real]
           have : (vs.map (TP.real E)).toArray[i]? = some (v.real E) := by simp [hv]
           simp [Instr.extract, this]
         · have h1 := ev_has hk' hx
           rw [nth_eq] at hv
           simp only [SV.has, AV.has, List.any_eq_false] at h1
           have h2 := h1 v (List.mem_of_getElem? hv)
           rw [Bool.not_eq_true] at h2
           cases v <;> exact h2
       · cases hd
     · split at hd
       · rename_i vs
         split at hd
         · rename_i v hv
           cases hd
           refine does_val (run_do rfl ?_)
           rw [ev_ok h hx]
           rw [nth_eq] at hv
           have : vs[i]? = some v := by simpa using hv
           simp [SV.real, AV.real, Instr.extract, this]
         · cases hd
       · cases hd
     · cases hd
   · cases hd
 case call c =>
   obtain ⟨callee, args, ts⟩ := c
   cases callee with
   | builtin b =>
     simp only [dop] at hd
     have hrun : ∀ {v : Value} (s : Sem Value), (builtin b ts type (args.map fun | .const _ => true | _ => false) (args.map a.eval)) = (do pure (.value (← s)) : Sem Next) → s.run P w = .ok v w →
         (execOp a.eval ⟨dst, .call ⟨.builtin b, args, ts⟩, type, pos, after, guard⟩).run P w = .ok (.value v) w := by
       intro v s hs hv
       show (do let d ← resolve a.eval ⟨.builtin b, args, ts⟩ type; invoke d.target d.args : Sem Next).run P w = _
       simp only [resolve, pure_bind, invoke]
       exact (congrArg (fun z : Sem Next => z.run P w) hs).trans (by rw [Sem.run_bind, hv]; rfl)
     unfold bltin at hd
     split at hd
     · rename_i t tr x hts hargs
       split at hd
       · rename_i e he
         have hu := (hT _ _ he).1.und
         obtain ⟨y, hy, hxy⟩ : ∃ y, args = #[y] ∧ ev st y = some (.o x) := by
           rcases args with ⟨_ | ⟨y, _ | ⟨z, r⟩⟩⟩
           · simp at hargs
           · exact ⟨y, rfl, by simpa using hargs⟩
           · simp at hargs
         subst hy
         have hey := ev_ok h hxy
         have htt : ts[0]? = some t := by rw [← Array.getElem?_toList, hts]; rfl
         have hlen : ∀ (v : Value), (Builtin.len_ ts type #[a.eval y]).run P w = .ok v w →
             (execOp a.eval ⟨dst, .call ⟨.builtin .len, #[y], ts⟩, type, pos, after, guard⟩).run P w = .ok (.value v) w := fun v hv => hrun _ rfl (by rw [show (#[y].map a.eval) = #[a.eval y] by simp]; exact hv)
         split at hd
         · rename_i s hdesc
           cases hd
           rw [hdesc] at hu
           exact does_val (hlen _ (by rw [hey]; simp [Builtin.len_, htt, SV.real, AV.real, run_underlying hu, goInt]))
         · rename_i n el hdesc
           cases hd
           rw [hdesc] at hu
           exact does_val (hlen _ (by simp [Builtin.len_, htt, run_underlying hu, goInt]))
         · rename_i A n cap hdesc
           cases hd
           rw [hdesc] at hu
           exact does_val (hlen _ (by rw [hey]; simp [Builtin.len_, htt, SV.real, AV.real, run_underlying hu, goInt]))
         · rename_i A n cap hdesc
           cases hd
           rw [hdesc] at hu
           exact does_val (hlen _ (by rw [hey]; simp [Builtin.len_, htt, SV.real, AV.real, run_underlying hu, goInt]))
         · rename_i k hdesc
           split at hd
           · rename_i n xs hm
             cases hd
             rw [hdesc] at hu
             have hω : (E.ω k).1 = n := (own_cases (h.mem.ent _ _ hm)).2.1
             exact does_val (hlen _ (by rw [hey]; simp [Builtin.len_, htt, SV.real, AV.real, run_underlying hu, goInt, hω]))
           · cases hd
         · cases hd
       · cases hd
     · rename_i k x k' y hargs
       obtain ⟨p, q, hp, hxp, hxq⟩ : ∃ p q, args = #[p, q] ∧ ev st p = some (.o (.v (.int k x))) ∧ ev st q = some (.o (.v (.int k' y))) := by
         rcases args with ⟨_ | ⟨p, _ | ⟨q, _ | ⟨z, r⟩⟩⟩⟩
         · simp at hargs
         · simp at hargs
         · exact ⟨p, q, rfl, by simpa using hargs⟩
         · simp at hargs
       subst hp
       cases hd
       exact does_val (hrun _ rfl (by simp only [List.map_toArray, List.map_cons, List.map_nil, ev_ok h hxp, ev_ok h hxq]; exact run_max_int2 w ts type k k' x y))
     · rename_i k x k' y hargs
       obtain ⟨p, q, hp, hxp, hxq⟩ : ∃ p q, args = #[p, q] ∧ ev st p = some (.o (.v (.int k x))) ∧ ev st q = some (.o (.v (.int k' y))) := by
         rcases args with ⟨_ | ⟨p, _ | ⟨q, _ | ⟨z, r⟩⟩⟩⟩
         · simp at hargs
         · simp at hargs
         · exact ⟨p, q, rfl, by simpa using hargs⟩
         · simp at hargs
       subst hp
       cases hd
       exact does_val (hrun _ rfl (by simp only [List.map_toArray, List.map_cons, List.map_nil, ev_ok h hxp, ev_ok h hxq]; exact run_min_int2 w ts type k k' x y))
     · rename_i k x k' y k'' z k3 u hargs
       obtain ⟨p, q, p', q', hp, hxp, hxq, hxp', hxq'⟩ : ∃ p q p' q', args = #[p, q, p', q'] ∧ ev st p = some (.o (.v (.int k x))) ∧ ev st q = some (.o (.v (.int k' y))) ∧ ev st p' = some (.o (.v (.int k'' z))) ∧ ev st q' = some (.o (.v (.int k3 u))) := by
         rcases args with ⟨_ | ⟨p, _ | ⟨q, _ | ⟨p', _ | ⟨q', _ | ⟨z, r⟩⟩⟩⟩⟩⟩
         · simp at hargs
         · simp at hargs
         · simp at hargs
         · simp at hargs
         · exact ⟨p, q, p', q', rfl, by simpa using hargs⟩
         · simp at hargs
       subst hp
       cases hd
       exact does_val (hrun _ rfl (by simp only [List.map_toArray, List.map_cons, List.map_nil, ev_ok h hxp, ev_ok h hxq, ev_ok h hxp', ev_ok h hxq']; simp [Builtin.max_, Builtin.max2, SV.real, AV.real, mxI]))
     · cases hd
   | _ => simp [dop] at hd
 all_goals (simp [dop] at hd)

end
end Go.Sx
end
section
/- A symbolic executor over loaded Go code: how states turn. -/
namespace Go.Sx
open Go Go.RowKit

def SS.put (st : SS) (d : Option Tmp) (x : SV) : SS := match d with
 | some i => { st with tm := (i, x) :: st.tm }
 | none => st
def SS.mem (st : SS) (d : Nat) (m : ME) : SS := { st with me := (d, m) :: st.me }
def dstOk (N : Nat) : Option Tmp → Bool
 | some d => Nat.blt d N
 | none => true

theorem heapnew (w : World) (o : Obj) : (w.alloc o).heap[w.heap.size]? = some o := by
 show (w.heap.push o)[w.heap.size]? = some o
 simp

section
variable {P : Program} {T : TT} {C : Cx} {E : Env} {st : SS} {a : Act} {w : World}

theorem SRE.put (h : SRE C E st a w) {d : Option Tmp} (hd : dstOk C.N d = true) (x : SV) : SRE C E (st.put d x) (a.put d (x.real E)) w := by
 cases d with
 | none => exact h
 | some i =>
   have hlt : i < C.N := Nat.le_of_ble_eq_true hd
   refine ⟨by simp [Act.put, h.size], h.defers, fun j sv hj => ?_, h.mem⟩
   simp only [SS.put, lk_cons] at hj
   simp only [Act.put]
   split at hj
   · rename_i e; subst e; cases hj
     rw [Array.getElem?_setIfInBounds_self, if_pos (by rw [h.size]; exact hlt)]
   · rename_i e
     rw [Array.getElem?_setIfInBounds_ne (fun e' => e e'.symm)]
     exact h.tm j sv hj

theorem SRE.new (h : SRE C E st a w) {d : Nat} (hd : dstOk C.N (some d) = true) (hf : st.has d = false) {cs : List AV} {t : TypeId} (hcs : ∀ k, st.has k = false → cs.any (AV.has k) = false) (x : SV) :
   SRE C (E.set d w.heap.size) ((st.mem d (.box cs t)).put (some d) x) (a.put (some d) (x.real (E.set d w.heap.size))) (w.alloc (.cells (cs.map (AV.real E)).toArray t)) := by
 have hbut := Env.set_but E d w.heap.size
 have hold : ∀ b, b < w.heap.size → (w.alloc (.cells (cs.map (AV.real E)).toArray t)).heap[b]? = w.heap[b]? := fun b hb => Below.heap_alloc _ _ _ hb
 have hne : ∀ {j m}, lk j st.me = some m → j ≠ d := fun hj => (SS.has_me hf hj).1
 have hβ : ∀ {j}, j ≠ d → (E.set d w.heap.size).β j = E.β j := fun hj => (hbut _ hj).1
 have hsmall : ∀ {j m b}, lk j st.me = some m → E.β j = some b → b < w.heap.size := fun hj hb => (h.mem.ge _ _ _ hj hb).2
 have h1 : SRE C (E.set d w.heap.size) (st.mem d (.box cs t)) a (w.alloc (.cells (cs.map (AV.real E)).toArray t)) := by
   refine ⟨h.size, h.defers.keep (KD.below (Bel.new _ _)), fun j sv hj => ?_, ⟨fun j m hj => ?_, fun j m b hj hb => ?_, fun j j' m m' b hj hj' hb hb' => ?_, fun R hR => ?_, ?_, fun j b m hX hj => ?_⟩⟩
   · rw [SV.real_but hbut (SS.has_tm hf hj)]; exact h.tm j sv hj
   · simp only [SS.mem, lk_cons] at hj
     split at hj
     · rename_i e; subst e; cases hj
       refine ⟨w.heap.size, Env.set_self _ _ _, ?_⟩
       rw [AV.map_but hbut (hcs _ hf)]
       exact heapnew _ _
     · rename_i e
       exact ((h.mem.ent j m hj).but hbut e (SS.has_me hf hj).2).of_block (fun b hb => by rw [hβ e] at hb; exact hold b (hsmall hj hb))
   · simp only [SS.mem, lk_cons] at hj
     rw [World.size_alloc]
     split at hj
     · rename_i e; subst e; rw [Env.set_self] at hb; cases hb; exact ⟨.inl h.mem.ext.size, by omega⟩
     · rename_i e; rw [hβ e] at hb; have := h.mem.ge _ _ _ hj hb; exact ⟨this.1, by omega⟩
   · simp only [SS.mem, lk_cons] at hj hj'
     split at hj <;> split at hj'
     · rename_i e e'; rw [e, e']
     · rename_i e e'; subst e; rw [Env.set_self] at hb; cases hb; rw [hβ e'] at hb'; have := hsmall hj' hb'; omega
     · rename_i e e'; subst e'; rw [Env.set_self] at hb'; cases hb'; rw [hβ e] at hb; have := hsmall hj hb; omega
     · rename_i e e'; rw [hβ e] at hb; rw [hβ e'] at hb'; exact h.mem.inj _ _ _ _ _ hj hj' hb hb'
   · obtain ⟨r1, r2, r3⟩ := h.mem.res R hR
     refine ⟨r1, r1 _ _ r2 (fun b hb => hold b (r3 b hb).1.lt), fun b hb => ⟨(r3 b hb).1.keep (hold b (r3 b hb).1.lt), fun j m hj hjb => ?_⟩⟩
     simp only [SS.mem, lk_cons] at hj
     split at hj
     · rename_i e; subst e; rw [Env.set_self] at hjb; cases hjb; have := (r3 _ hb).1.lt; omega
     · rename_i e; rw [hβ e] at hjb; exact (r3 b hb).2 j m hj hjb
   · exact h.mem.ext.step (Bel.new _ _)
   · have hdN : d < C.N := Nat.le_of_ble_eq_true hd
     simp only [SS.mem, lk_cons] at hj
     rw [if_neg (by omega)] at hj
     rw [hβ (by omega)]
     exact h.mem.rig j b m hX hj
 exact h1.put hd x

theorem Does.step (h : SRE C E st a w) {o : Oper} {d : Nat} {m : Option ME} {x : SV} (hd : dstOk C.N o.dst = true) (hm : m.isSome = true → o.dst = some d) (hdo : Does P E st d a w o m x) :
   ∃ v w' E', (execOp a.eval o).run P w = .ok (.value v) w' ∧ SRE C E' ((match m with | none => st | some m => st.mem d m).put o.dst x) (a.put o.dst v) w' ∧ Bel w.heap.size w w' := by
 cases m with
 | none => exact ⟨_, w, E, hdo.1, h.put hd x, Bel.refl _ _⟩
 | some m =>
   obtain ⟨cs, t, rfl, hf, hcs, hrun, hx⟩ := hdo
   have e := hm rfl
   rw [e] at hd ⊢
   exact ⟨_, _, _, hrun, h.new hd hf hcs x, Bel.new _ _⟩

theorem MemOk.world (h : MemOk C E st.me st.re w) {w' : World} (hb : Bel w.heap.size w w') : MemOk C E st.me st.re w' where
 ent k m hk := (h.ent k m hk).of_block (fun b hb' => hb.block b (h.ge k m b hk hb').2)
 ge k m b hk hb' := ⟨(h.ge k m b hk hb').1, Nat.lt_of_lt_of_le (h.ge k m b hk hb').2 hb.size⟩
 inj := h.inj
 res R hR := by
   obtain ⟨r1, r2, r3⟩ := h.res R hR
   exact ⟨r1, r1 _ _ r2 (fun b hb' => hb.block b (r3 b hb').1.lt), fun b hb' => ⟨(r3 b hb').1.keep (hb.block b (r3 b hb').1.lt), (r3 b hb').2⟩⟩
 ext := h.ext.step hb
 rig := h.rig
theorem SRE.world (h : SRE C E st a w) {w' : World} (hb : Bel w.heap.size w w') : SRE C E st a w' := ⟨h.size, h.defers.keep (KD.below hb), h.tm, h.mem.world hb⟩

def oneB : AV → Bool
 | .v (.agg _) => false
 | .v (.tuple _) => false
 | .tu _ => false
 | _ => true
theorem oneB_real {x : AV} (h : oneB x = true) (E : Env) : (x.real E).oneCell' = true := by
 cases x with
 | v x => cases x <;> first | (simp [oneB] at h; done) | rfl
 | tu xs => simp [oneB] at h
 | _ => rfl

def setL (k : Nat) (m : ME) : List (Nat × ME) → List (Nat × ME)
 | [] => []
 | (j, x) :: r => bif Nat.beq k j then (j, m) :: r else (j, x) :: setL k m r
theorem lk_setL (k : Nat) (m : ME) : ∀ (l : List (Nat × ME)) (j : Nat), lk j (setL k m l) = if j = k then (match lk k l with | some _ => some m | none => none) else lk j l
 | [], j => by simp [setL, lk]
 | (i, x) :: r, j => by
   simp only [setL]
   by_cases hi : k = i
   · subst hi
     simp only [Nat.beq_refl, cond_true, lk_cons]
     by_cases hj : j = k <;> simp [hj]
   · rw [beq_false.2 hi]
     simp only [cond_false, lk_cons, lk_setL k m r j]
     by_cases hj : j = k
     · subst hj; simp [hi]
     · simp [hj]

theorem putN_eq {α : Type} : ∀ (off : Nat) (xs l : List α), off + xs.length ≤ l.length → putN off xs l = l.take off ++ xs ++ l.drop (off + xs.length)
 | off, [], l, h => by
   have : putN off ([] : List α) l = l := by cases off <;> cases l <;> rfl
   rw [this]; simp
 | 0, x :: xs, [], h => by simp at h
 | 0, x :: xs, y :: l, h => by
   have := putN_eq 0 xs l (by simpa using h)
   simp only [putN, this]
   simp [Nat.add_comm]
 | n + 1, x :: xs, [], h => by simp at h
 | n + 1, x :: xs, y :: l, h => by
   have := putN_eq n (x :: xs) l (by simp at h ⊢; omega)
   simp only [putN, this]
   simp only [List.take_succ_cons, List.cons_append, List.length_cons]
   congr 2
   rw [show n + 1 + (xs.length + 1) = (n + (xs.length + 1)) + 1 by omega, List.drop_succ_cons]

theorem SRE.store (h : SRE C E st a w) {k : Nat} {m0 m' : ME} {t : TypeId} {b : Nat} {old cur : Array Value} (hm0 : lk k st.me = some m0) (hb : E.β k = some b) (hheap : w.heap[b]? = some (.cells old t (0, 0)))
   (hok : (w.setRow b cur).heap[b]? = some (.cells cur t (0, 0)) → MEok E (w.setRow b cur) k m') :
   SRE C E { st with me := setL k m' st.me } a (w.setRow b cur) := by
 have hnew : (w.setRow b cur).heap[b]? = some (.cells cur t (0, 0)) := setRow_heap w b _ cur t _ hheap
 have hoth : ∀ c, c ≠ b → (w.setRow b cur).heap[c]? = w.heap[c]? := fun c hc => by
   simp only [World.setRow, Array.getElem?_modify]
   rw [if_neg (fun e => hc e.symm)]
 have hsz : (w.setRow b cur).heap.size = w.heap.size := by simp [World.setRow]
 refine ⟨h.size, h.defers.keep (fun c hc => (hoth c (fun e => by subst e; rw [hheap] at hc; cases hc)).trans hc), h.tm, ⟨fun j m hj => ?_, fun j m c hj hc => ?_, fun j j' m m' c hj hj' hc hc' => ?_, fun R hR => ?_, ?_, fun j c m hX hj => ?_⟩⟩
 · simp only [lk_setL] at hj
   split at hj
   · rename_i e; subst e
     rw [hm0] at hj
     cases hj
     exact hok hnew
   · rename_i e
     exact (h.mem.ent j m hj).of_block (fun c hc => hoth c (fun e' => e (h.mem.inj _ _ _ _ _ hj hm0 hc (by rw [e']; exact hb))))
 · rw [hsz]
   simp only [lk_setL] at hj
   split at hj
   · rename_i e; subst e; exact h.mem.ge _ _ _ hm0 hc
   · exact h.mem.ge _ _ _ hj hc
 · simp only [lk_setL] at hj hj'
   split at hj <;> split at hj'
   · rename_i e e'; rw [e, e']
   · rename_i e e'; subst e; exact h.mem.inj _ _ _ _ _ hm0 hj' hc hc'
   · rename_i e e'; subst e'; exact h.mem.inj _ _ _ _ _ hj hm0 hc hc'
   · exact h.mem.inj _ _ _ _ _ hj hj' hc hc'
 · obtain ⟨r1, r2, r3⟩ := h.mem.res R hR
   refine ⟨r1, r1 _ _ r2 (fun c hc => hoth c (fun e => (r3 c hc).2 k m0 hm0 (by rw [e]; exact hb))), fun c hc => ⟨(r3 c hc).1.keep (hoth c (fun e => (r3 c hc).2 k m0 hm0 (by rw [e]; exact hb))), fun j m hj hjc => ?_⟩⟩
   simp only [lk_setL] at hj
   split at hj
   · rename_i e; subst e; exact (r3 c hc).2 _ _ hm0 hjc
   · exact (r3 c hc).2 _ _ hj hjc
 · have hge := h.mem.ge _ _ _ hm0 hb
   refine ⟨h.mem.ext.os, h.mem.ext.tape, h.mem.ext.output, by rw [hsz]; exact h.mem.ext.size, fun c hc hx => ?_, h.mem.ext.drawn⟩
   rw [hoth c (fun e => by subst e; rcases hge.1 with h1 | h1; omega; exact hx h1)]
   exact h.mem.ext.block c hc hx
 · simp only [lk_setL] at hj
   split at hj
   · rename_i e; exact h.mem.rig j c m0 hX (by rw [e]; exact hm0)
   · exact h.mem.rig j c m hX hj

def rmL (k : Nat) : List (Nat × ME) → List (Nat × ME)
 | [] => []
 | (j, x) :: r => bif Nat.beq j k then rmL k r else (j, x) :: rmL k r
theorem lk_rmL (k : Nat) : ∀ (l : List (Nat × ME)) (j : Nat), lk j (rmL k l) = if j = k then none else lk j l
 | [], j => by simp [rmL, lk]
 | (i, x) :: r, j => by
   simp only [rmL]
   by_cases hi : i = k
   · subst hi
     simp only [Nat.beq_refl, cond_true, lk_rmL i r j, lk_cons]
     by_cases hj : j = i <;> simp [hj]
   · rw [beq_false.2 hi]
     simp only [cond_false, lk_cons, lk_rmL k r j]
     by_cases hj : j = i
     · subst hj; simp [hi]
     · simp [hj]
def rmO (k : Option Nat) (l : List (Nat × ME)) : List (Nat × ME) := match k with
 | none => l
 | some k => rmL k l
theorem lk_rmO {k : Option Nat} {l : List (Nat × ME)} {j : Nat} {m : ME} (h : lk j (rmO k l) = some m) : lk j l = some m ∧ k ≠ some j := by
 cases k with
 | none => exact ⟨h, by simp⟩
 | some k =>
   simp only [rmO, lk_rmL] at h
   split at h
   · cases h
   · rename_i e; exact ⟨h, fun h => e (by cases h; rfl)⟩

def Env.setO (E : Env) (d : Nat) (b : Option Nat) (p : Nat × Nat) : Env := ⟨fun j => if j = d then b else E.β j, fun j => if j = d then p else E.ω j⟩
theorem Env.setO_but (E : Env) (d : Nat) (b : Option Nat) (p : Nat × Nat) : E.but (E.setO d b p) d := fun j hj => by simp [Env.setO, hj]

def sliceEnv (E : Env) (d : Nat) : Value → Env
 | .slice (some a) n m => E.setO d (some a.block) (n, m)
 | .slice none n m => E.setO d none (n, m)
 | _ => E
theorem own_real {E : Env} {d : Nat} {w : World} {base t es n : Nat} {v : Value} {xs : List Value} (h : w.ownsRow base t es v n xs) :
   E.but (sliceEnv E d v) d ∧ (AV.w d).real (sliceEnv E d v) = v ∧ (∀ b, (sliceEnv E d v).β d = some b ↔ v.ownBlock = some b) := by
 obtain ⟨_, ⟨rfl, _⟩ | ⟨g, cap, cur, rfl, _⟩⟩ := h
 · exact ⟨Env.setO_but _ _ _ _, by simp [sliceEnv, AV.real, Env.setO], fun b => by simp [sliceEnv, Env.setO, Value.ownBlock]⟩
 · exact ⟨Env.setO_but _ _ _ _, by simp [sliceEnv, AV.real, Env.setO], fun b => by simp [sliceEnv, Env.setO, Value.ownBlock]⟩

theorem SRE.own (h : SRE C E st a w) {d : Nat} (hd : dstOk C.N (some d) = true) (hf : st.has d = false) {kk : Option Nat} {w' : World} {row : Option Nat} (hdr : w.drawn ≤ w'.drawn) (hg : w.grownBy w' row)
   (hrow : ∀ b, row = some b → ∃ k m, kk = some k ∧ lk k st.me = some m ∧ E.β k = some b ∧ IsC w b) {v : Value} {t es n : Nat} {xs : List Value} (hown : w'.ownsRow 0 t es v n xs)
   (hblk : ∀ b, v.ownBlock = some b → w.heap.size ≤ b ∨ row = some b) :
   SRE C (sliceEnv E d v) (({ st with me := (d, .own t es n xs) :: rmO kk st.me } : SS).put (some d) (.o (.w d))) (a.put (some d) v) w' := by
 obtain ⟨hbut, hreal, hβd⟩ := own_real (E := E) (d := d) hown
 have hne : ∀ {j m}, lk j st.me = some m → j ≠ d := fun hj => (SS.has_me hf hj).1
 have hβ : ∀ {j}, j ≠ d → (sliceEnv E d v).β j = E.β j := fun hj => (hbut _ hj).1
 have hsmall : ∀ {j m b}, lk j st.me = some m → E.β j = some b → b < w.heap.size := fun hj hb => (h.mem.ge _ _ _ hj hb).2
 have hblkold : ∀ b, b < w.heap.size → row ≠ some b → w'.heap[b]? = w.heap[b]? := fun b hb hr => hg.block b hb (fun e => hr e.symm)
 have hkeep : ∀ {j m b}, lk j st.me = some m → kk ≠ some j → E.β j = some b → row ≠ some b := fun {j m b} hj hk hb hr => by
   obtain ⟨k, m', h1, h2, h3, _⟩ := hrow b hr
   exact hk (by rw [h1, h.mem.inj _ _ _ _ _ hj h2 hb h3])
 have hvlt : ∀ b, v.ownBlock = some b → b < w'.heap.size := fun b hb => by
   obtain ⟨_, ⟨rfl, _⟩ | ⟨g, cap, cur, rfl, _, h4, _⟩⟩ := hown
   · cases hb
   · cases hb; exact (Array.getElem?_eq_some_iff.1 h4).1
 have h1 : SRE C (sliceEnv E d v) { st with me := (d, .own t es n xs) :: rmO kk st.me } a w' := by
   refine ⟨h.size, h.defers.keep (fun c hc => ?_), fun j sv hj => ?_, ⟨fun j m hj => ?_, fun j m b hj hb => ?_, fun j j' m m' b hj hj' hb hb' => ?_, fun R hR => ?_, ?_, fun j b m hX hj => ?_⟩⟩
   · refine (hblkold c (Array.getElem?_eq_some_iff.1 hc).1 (fun hr => ?_)).trans hc
     obtain ⟨_, _, _, _, _, o, h5, h6⟩ := hrow c hr
     rw [h5] at hc; cases hc; cases h6
   · rw [SV.real_but hbut (SS.has_tm hf hj)]; exact h.tm j sv hj
   · simp only [lk_cons] at hj
     split at hj
     · rename_i e; subst e; cases hj
       have : Value.slice (((sliceEnv E j v).β j).map fun b => ⟨b, 0, none⟩) ((sliceEnv E j v).ω j).1 ((sliceEnv E j v).ω j).2 = v := hreal
       simp only [MEok, this]
       exact hown
     · rename_i e
       obtain ⟨hj, hk⟩ := lk_rmO hj
       refine ((h.mem.ent j m hj).but hbut e (SS.has_me hf hj).2).of_block (fun b hb => ?_)
       rw [hβ e] at hb
       exact hblkold b (hsmall hj hb) (hkeep hj hk hb)
   · simp only [lk_cons] at hj
     split at hj
     · rename_i e; subst e
       have hb' := (hβd b).1 hb
       refine ⟨?_, hvlt b hb'⟩
       rcases hblk b hb' with h2 | h2
       · exact .inl (Nat.le_trans h.mem.ext.size h2)
       · obtain ⟨k, m', _, h4, h5, _⟩ := hrow b h2; exact (h.mem.ge _ _ _ h4 h5).1
     · rename_i e
       obtain ⟨hj, hk⟩ := lk_rmO hj
       rw [hβ e] at hb; have := h.mem.ge _ _ _ hj hb; exact ⟨this.1, Nat.lt_of_lt_of_le this.2 hg.size⟩
   · simp only [lk_cons] at hj hj'
     have hdiff : ∀ {i mm}, i ≠ d → lk i (rmO kk st.me) = some mm → (sliceEnv E d v).β i = some b → (sliceEnv E d v).β d = some b → False := fun {i mm} hi hl h1 h2 => by
       obtain ⟨hl, hk⟩ := lk_rmO hl
       rw [hβ hi] at h1
       rcases hblk b ((hβd b).1 h2) with h3 | h3
       · have := hsmall hl h1; omega
       · exact hkeep hl hk h1 h3
     split at hj <;> split at hj'
     · rename_i e e'; rw [e, e']
     · rename_i e e'; subst e; exact (hdiff e' hj' hb' hb).elim
     · rename_i e e'; subst e'; exact (hdiff e hj hb hb').elim
     · rename_i e e'; rw [hβ e] at hb; rw [hβ e'] at hb'; exact h.mem.inj _ _ _ _ _ (lk_rmO hj).1 (lk_rmO hj').1 hb hb'
   · obtain ⟨r1, r2, r3⟩ := h.mem.res R hR
     have hnr : ∀ b ∈ R.bs, row ≠ some b := fun b hb hr => by
       obtain ⟨k, m', _, h4, h5, _⟩ := hrow b hr
       exact (r3 b hb).2 k m' h4 h5
     have hold : ∀ b ∈ R.bs, w'.heap[b]? = w.heap[b]? := fun b hb => hblkold b (r3 b hb).1.lt (hnr b hb)
     refine ⟨r1, r1 _ _ r2 hold, fun b hb => ⟨(r3 b hb).1.keep (hold b hb), fun j m hj hjb => ?_⟩⟩
     simp only [lk_cons] at hj
     split at hj
     · rename_i e; subst e
       rcases hblk b ((hβd b).1 hjb) with h3 | h3
       · have := (r3 _ hb).1.lt; omega
       · exact hnr b hb h3
     · rename_i e; rw [hβ e] at hjb; exact (r3 b hb).2 j m (lk_rmO hj).1 hjb
   · have hx := h.mem.ext
     refine ⟨hg.os.trans hx.os, hg.tape.trans hx.tape, hg.output.trans hx.output, Nat.le_trans hx.size hg.size, fun b hb hnx => ?_, Nat.le_trans hx.drawn hdr⟩
     refine (hblkold b (Nat.lt_of_lt_of_le hb hx.size) (fun hr => ?_)).trans (hx.block b hb hnx)
     obtain ⟨k, m', _, h4, h5, _⟩ := hrow b hr
     rcases (h.mem.ge _ _ _ h4 h5).1 with h6 | h6
     · omega
     · exact hnx h6
   · have hdN : d < C.N := Nat.le_of_ble_eq_true hd
     simp only [lk_cons] at hj
     rw [if_neg (by omega)] at hj
     rw [hβ (by omega)]
     exact h.mem.rig j b m hX (lk_rmO hj).1
 have := h1.put hd (.o (.w d))
 rw [show (SV.o (.w d)).real (sliceEnv E d v) = v from hreal] at this
 exact this

end
end Go.Sx
end
