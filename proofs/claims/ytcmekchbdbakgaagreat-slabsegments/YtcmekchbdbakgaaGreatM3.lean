/- A part of the proof of a law: the symbolic executor, contracts of functions of the program, plain laws. No conditions. -/
import Derived.Test.YtcmekchbdbakgaaGreatM2
import Derived.Laws.StructEq
import Derived.ChangeKeysEq
set_option linter.unusedVariables false
set_option linter.unusedSimpArgs false
set_option linter.unusedSectionVars false
section
/- A symbolic executor over loaded Go code: from a function's body to its contract. -/
namespace Go.Sx
open Go Go.RowKit

def argTm : Nat → List SV → List (Nat × SV)
 | _, [] => []
 | i, x :: r => (i, x) :: argTm (i + 1) r
theorem lk_argTm : ∀ (l : List SV) (i j : Nat) {x : SV}, lk j (argTm i l) = some x → i ≤ j ∧ l[j - i]? = some x
 | [], i, j, x, h => by simp [argTm, lk] at h
 | y :: r, i, j, x, h => by
   simp only [argTm, lk_cons] at h
   split at h
   · rename_i e; subst e; cases h; simp
   · have := lk_argTm r (i + 1) j h
     refine ⟨by omega, ?_⟩
     rw [show j - i = (j - (i + 1)) + 1 by omega]
     simpa using this.2

def rets (T : TT) (st : SS) : List ResultVar → Option (List SV)
 | [] => some []
 | .tmp t :: r => match lk t st.tm, rets T st r with
   | some x, some l => some (x :: l)
   | _, _ => none
 | .cell p t :: r => match lk t T, lk p st.tm, rets T st r with
   | some e, some (.o (.p k off)), some l => match lk k st.me with
     | some (.box cs _) => match takeN e.size (dropN off cs) with
       | some y => bif isAggD e.desc then some (mkA y :: l) else (match y with
         | [z] => some (.o z :: l)
         | _ => none)
       | none => none
     | _ => none
   | _, _, _ => none
def RetVC (T : TT) (fn : Func) (st : SS) (post : List SV → SS → Prop) : Prop := match rets T st fn.results.toList with
 | some l => post l st
 | none => False
def retQ (T : TT) (fn : Func) (post : List SV → SS → Prop) : Exit → SS → Prop
 | .normal, st => RetVC T fn st post
 | .ret, st => RetVC T fn st post
 | _, _ => False
def retV : List Value → Value
 | [x] => x
 | l => .tuple ⟨l⟩

section
variable {P : Program} {T : TT} {C : Cx} {ro : Option Nat} {n : Nat}

def resF (tmps : Array Value) : ResultVar → Sem Value
 | .tmp t => pure (tmps.getD t undef)
 | .cell p t => do loadVar t (← asAddr (tmps.getD p undef))
theorem results_eq (fn : Func) (tmps : Array Value) : results fn tmps = (do let vs ← fn.results.mapM (resF tmps); pure (if h : vs.size = 1 then vs[0] else .tuple vs)) := by
 unfold results
 congr 2
theorem rets_ok (hT : TTgood P T) {E : Env} {st : SS} {a : Act} {w w' : World} (h : SRE C E st a w) (hm : MemOk C E st.me st.re w') : ∀ {rs : List ResultVar} {l : List SV}, rets T st rs = some l →
   (rs.mapM (m := Sem) (resF a.tmps)).run P w' = .ok (l.map (SV.real E)) w'
 | [], l, hl => by simp only [rets, Option.some.injEq] at hl; subst hl; rfl
 | .tmp t :: r, l, hl => by
   simp only [rets] at hl
   split at hl
   · rename_i x l' hx hr
     cases hl
     have := h.tm _ _ hx
     rw [List.mapM_cons, Sem.run_bind]
     simp only [resF, Sem.run_pure, Result.andThen]
     rw [Sem.run_bind, rets_ok hT h hm hr]
     simp [Result.andThen, this]
   · cases hl
 | .cell p t :: r, l, hl => by
   simp only [rets] at hl
   split at hl
   · rename_i e k off l' he hp hr
     split at hl
     · rename_i cs ty hme
       split at hl
       · rename_i y hy
         have htm := h.tm _ _ hp
         obtain ⟨b, hb, hcells⟩ := hm.ent _ _ hme
         have hy' := takeN_eq hy
         rw [dropN_eq] at hy'
         have hev : a.tmps.getD p undef = .pointer (some ⟨b, off, none⟩) := by
           rw [Array.getD_eq_getD_getElem?, htm]; simp [SV.real, AV.real, hb]
         have hv := run_loadVar (hT _ _ he).1 (b := b) (off := off) (w := w') (l := y.map (AV.real E)) (by simp [hy'.2]) (fun j v hj => by
           rw [cell_of hcells]
           rw [hy'.1] at hj
           simp only [List.getElem?_map, List.getElem?_take, List.getElem?_drop] at hj
           simp only [List.getElem?_toArray, List.getElem?_map]
           split at hj
           · exact hj
           · simp at hj)
         have hgo : ∀ {x : SV}, (loadVar t ⟨b, off, none⟩).run P w' = .ok (x.real E) w' →
             ((ResultVar.cell p t :: r).mapM (m := Sem) (resF a.tmps)).run P w' = .ok ((x :: l').map (SV.real E)) w' := by
           intro x hx
           have has : (asAddr (a.tmps.getD p undef)).run P w' = .ok ⟨b, off, none⟩ w' := by rw [hev]; rfl
           rw [List.mapM_cons, Sem.run_bind]
           simp only [resF]
           rw [Sem.run_bind, has]
           simp only [Result.andThen]
           rw [hx]
           simp only [Result.andThen]
           rw [Sem.run_bind, rets_ok hT h hm hr]
           simp [Result.andThen]
         by_cases hg : isAggD e.desc = true
         · rw [hg] at hl
           cases hl
           rw [if_pos hg] at hv
           exact hgo (by rw [mkA_real]; exact hv)
         · rw [if_neg hg] at hv
           rw [Bool.not_eq_true] at hg
           rw [hg] at hl
           simp only [cond_false] at hl
           split at hl
           · cases hl
             exact hgo hv
           · cases hl
       · cases hl
     · cases hl
   · cases hl

theorem marks_out {E : Env} {st : SS} {fn : Func} {R : Ending → World → Prop} {tmps : Array Value} (hfin : ∀ w', MemOk C E st.me st.re w' → ∃ v, (results fn tmps).run P w' = .ok v w' ∧ R (.returned v) w') :
   ∀ (bs : List Nat) (w : World), bs.Nodup → (∀ b ∈ bs, C.W0.heap.size ≤ b ∧ w.heap[b]? = some (Obj.deferred (some []))) → MemOk C E st.me st.re w →
   LeavesInM (FW ro) n P fn tmps R (bs.map fun b => { target := .collected b, args := #[] }) .returning w
 | [], w, _, _, hm => by
   simp only [List.map_nil, LeavesInM, LeavesIn]
   exact hfin w hm
 | b :: bs, w, hnd, hbs, hm => by
   simp only [List.map_cons, LeavesInM]
   obtain ⟨h1, h2⟩ := hbs b (by simp)
   have hlt : b < w.heap.size := (Array.getElem?_eq_some_iff.1 h2).1
   refine ⟨by simp, .inl ⟨b, _, rfl, run_takeDeferred h2, marks_out hfin bs _ (List.nodup_cons.1 hnd).2 (fun c hc => ?_) ?_⟩⟩
   · obtain ⟨h3, h4⟩ := hbs c (List.mem_cons_of_mem _ hc)
     exact ⟨h3, (World.putObj_heap_other (fun e => by subst e; exact (List.nodup_cons.1 hnd).1 hc)).trans h4⟩
   · have hne : ∀ {c cs t fr}, w.heap[c]? = some (Obj.cells cs t fr) → (w.putObj b (.deferred none)).heap[c]? = w.heap[c]? := fun {c cs t fr} hc =>
       World.putObj_heap_other (fun e => by subst e; rw [h2] at hc; cases hc)
     have hblk : ∀ k m, lk k st.me = some m → ∀ c, E.β k = some c → (w.putObj b (.deferred none)).heap[c]? = w.heap[c]? := by
       intro k m hk c hc
       have := hm.ent k m hk
       cases m with
       | box cs t => obtain ⟨c', h5, h6⟩ := this; rw [hc] at h5; cases h5; exact hne h6
       | sym cs t => obtain ⟨c', h5, h6⟩ := this; rw [hc] at h5; cases h5; exact hne h6
       | own t es q xs =>
         obtain ⟨_, _, ⟨h5, _⟩ | ⟨c', cur, h5, h6, _⟩⟩ := own_cases this
         · rw [hc] at h5; cases h5
         · rw [hc] at h5; cases h5; exact hne h6
     refine ⟨fun k m hk => (hm.ent k m hk).of_block (hblk k m hk), fun k m c hk hc => ⟨(hm.ge k m c hk hc).1, by rw [World.putObj_size]; exact (hm.ge k m c hk hc).2⟩, hm.inj, fun Rr hR => ?_, ?_, ?_⟩
     · obtain ⟨r1, r2, r3⟩ := hm.res Rr hR
       have hk : ∀ c ∈ Rr.bs, (w.putObj b (.deferred none)).heap[c]? = w.heap[c]? := fun c hc => by obtain ⟨o, h7, h8⟩ := (r3 c hc).1; exact World.putObj_heap_other (fun e => by subst e; rw [h2] at h7; cases h7; cases h8)
       exact ⟨r1, r1 _ _ r2 hk, fun c hc => ⟨(r3 c hc).1.keep (hk c hc), (r3 c hc).2⟩⟩
     · exact ⟨hm.ext.os, hm.ext.tape, hm.ext.output, by rw [World.putObj_size]; exact hm.ext.size, fun k hk hx => (World.putObj_heap_other (by omega)).trans (hm.ext.block k hk hx), hm.ext.drawn⟩
     · exact hm.rig

structure WPS (P : Program) (C : Cx) (c : Code) (st : SS) (Q : Exit → SS → Prop) : Prop where
 wp : ∀ a w, SR C st a w → c.wpIn (FW none) 0 P (lift C Q) a w
theorem WPS.of (hT : TTgood P T) (hmix : P.follows .mixedOrders = true) {c : Code} {st : SS} {Q : Exit → SS → Prop} (h : sexec P T C c st Q) : WPS P C c st Q := ⟨fun a w hr => sexec_sound (ro := none) (n := 0) hT hmix c h hr⟩
theorem WPS.le {c : Code} {st st' : SS} {Q : Exit → SS → Prop} (h : WPS P C c st' Q) (hl : SLe C st st') : WPS P C c st Q := ⟨fun a w hr => h.wp a w (hl a w hr)⟩
theorem WPS.peel (hT : TTgood P T) (hmix : P.follows .mixedOrders = true) {x y : Code} {st : SS} {Q : Exit → SS → Prop} (h : sexec P T C x st (fun e s => match e with
   | .normal => WPS P C y s Q
   | e => Q e s)) : WPS P C (.seq x y) st Q := ⟨fun a w hr => by
 refine wpIn_seq (wpIn_mono (sexec_sound (ro := none) (n := 0) hT hmix x h hr) ?_)
 rintro e a' w' ⟨st', hst, hq⟩
 cases e with
 | normal => exact hq.wp _ _ hst
 | _ => exact ⟨st', hst, hq⟩⟩
theorem WPS.cut (hT : TTgood P T) (hmix : P.follows .mixedOrders = true) {x y : Code} {st : SS} {Q : Exit → SS → Prop} {ι : Type} (M : ι → SS) (J : ι → Prop) (h : sexec P T C x st (fun e s => match e with
   | .normal => ∃ j, J j ∧ SLe C s (M j)
   | e => Q e s)) (hy : ∀ j, J j → WPS P C y (M j) Q) : WPS P C (.seq x y) st Q := ⟨fun a w hr => by
 refine wpIn_seq (wpIn_mono (sexec_sound (ro := none) (n := 0) hT hmix x h hr) ?_)
 rintro e a' w' ⟨st', hst, hq⟩
 cases e with
 | normal => obtain ⟨j, hj, hl⟩ := hq; exact (hy j hj).wp _ _ (hl _ _ hst)
 | _ => exact ⟨st', hst, hq⟩⟩
theorem calls_of_wps (hT : TTgood P T) (hmix : P.follows .mixedOrders = true) {f : FuncId} {fn : Func} {c : Code} {args : List SV} {me : List (Nat × ME)} {re : List Res} {X : List Nat} {E : Env} {w : World} {R : Ending → World → Prop} {post : List SV → SS → Prop}
   (hf : P.funcs[f]? = some fn) (hb : fn.body = some c) (hn : args.length ≤ fn.ntmps) (hmem : MemOk ⟨w, X, fn.ntmps⟩ E me re w)
   (hs : WPS P ⟨w, X, fn.ntmps⟩ c ⟨argTm 0 args, me, re⟩ (retQ T fn post))
   (hR : ∀ l st E' w', post l st → MemOk ⟨w, X, fn.ntmps⟩ E' st.me st.re w' → R (.returned (retV (l.map (SV.real E')))) w') :
   Calls P f (args.map (SV.real E)).toArray w R := by
 refine (callsIn_wide (n := 0)).1 ?_
 refine callsIn_of_wp_marks (F := Fence.wide) (n := 0) hf hb trivial ?_ rfl
 have hSR : SR ⟨w, X, fn.ntmps⟩ ⟨argTm 0 args, me, re⟩ { tmps := (args.map (SV.real E)).toArray ++ Array.replicate (fn.ntmps - (args.map (SV.real E)).toArray.size) undef, defers := [] } w := by
   refine ⟨E, by simp; omega, ⟨[], rfl, List.nodup_nil, by simp⟩, fun i sv hi => ?_, hmem⟩
   have := (lk_argTm args 0 i hi).2
   simp only [Nat.sub_zero] at this
   have hlt : i < args.length := (List.getElem?_eq_some_iff.1 this).1
   rw [Array.getElem?_append_left (by simpa using hlt)]
   simp [this]
 refine wpIn_mono (hs.wp _ _ hSR) ?_
 rintro e a' w' ⟨st, hst, hq⟩
 have key : RetVC T fn st post → LeavesInM Fence.wide 0 P fn a'.tmps R a'.defers .returning w' := by
   intro hv
   unfold RetVC at hv
   split at hv
   · rename_i l hl
     obtain ⟨E', hE⟩ := hst
     obtain ⟨bs, hbs, hnd, hall⟩ := hE.defers
     rw [hbs]
     refine marks_out (ro := none) (C := ⟨w, X, fn.ntmps⟩) (E := E') (st := st) (fun w2 hm2 => ⟨retV (l.map (SV.real E')), ?_, hR l st E' w2 hv hm2⟩) bs w' hnd hall hE.mem
     have hrr := rets_ok hT hE hm2 hl
     rw [results_eq, Sem.run_bind, Array.mapM_eq_mapM_toList, Sem.run_map, hrr]
     simp only [Result.andThen, Sem.run_pure]
     congr 1
     rcases h : l.map (SV.real E') with _ | ⟨x, _ | ⟨y, r⟩⟩
     · simp [retV]
     · simp [retV]
     · simp [retV]
   · exact hv.elim
 cases e with
 | normal => exact key hq
 | ret => exact key hq
 | exit id => exact hq.elim
 | goto l => exact hq.elim
 | panic ch => exact hq.elim
 | outgrown => exact hq.elim

end
end Go.Sx
end
section
/- '==' of structs, leaf by leaf. -/
namespace Go.Sx
open Go Go.RowKit

theorem eqL_split : ∀ (k1 k2 : List LK) (xs ys : List Value) (r : Bool), eqL (k1 ++ k2) xs ys = some r →
   ∃ r1 r2, eqL k1 (xs.take k1.length) (ys.take k1.length) = some r1 ∧ eqL k2 (xs.drop k1.length) (ys.drop k1.length) = some r2 ∧ r = (r1 && r2) ∧ (xs.take k1.length).length = k1.length ∧ (ys.take k1.length).length = k1.length
 | [], k2, xs, ys, r, h => ⟨true, r, by simp [eqL], by simpa using h, by simp, by simp, by simp⟩
 | k :: k1, k2, [], ys, r, h => by cases k <;> simp [eqL] at h
 | k :: k1, k2, x :: xs, [], r, h => by cases k <;> cases x <;> simp [eqL] at h
 | .b :: k1, k2, x :: xs, y :: ys, r, h => by
   cases x <;> cases y <;> simp only [List.cons_append, eqL] at h <;> try (cases h; done)
   split at h
   · rename_i c hc
     cases h
     obtain ⟨r1, r2, h1, h2, h3, h4, h5⟩ := eqL_split k1 k2 xs ys c hc
     exact ⟨_, r2, by simp only [List.length_cons, List.take_succ_cons, eqL, h1]; rfl, by simpa using h2, by rw [h3, Bool.and_assoc], by simpa using h4, by simpa using h5⟩
   · cases h
 | .s :: k1, k2, x :: xs, y :: ys, r, h => by
   cases x <;> cases y <;> simp only [List.cons_append, eqL] at h <;> try (cases h; done)
   split at h
   · rename_i c hc
     cases h
     obtain ⟨r1, r2, h1, h2, h3, h4, h5⟩ := eqL_split k1 k2 xs ys c hc
     exact ⟨_, r2, by simp only [List.length_cons, List.take_succ_cons, eqL, h1]; rfl, by simpa using h2, by rw [h3, Bool.and_assoc], by simpa using h4, by simpa using h5⟩
   · cases h
 | .i k :: k1, k2, x :: xs, y :: ys, r, h => by
   cases x <;> cases y <;> simp only [List.cons_append, eqL] at h <;> try (cases h; done)
   rename_i q1 a q2 b
   split at h
   · rename_i c hc
     by_cases hq : (decide (k = q1) && decide (k = q2)) = true
     · rw [hq] at h
       cases h
       obtain ⟨r1, r2, h1, h2, h3, h4, h5⟩ := eqL_split k1 k2 xs ys c hc
       exact ⟨_, r2, by simp only [List.length_cons, List.take_succ_cons, eqL, h1, hq, cond_true]; rfl, by simpa using h2, by rw [h3, Bool.and_assoc], by simpa using h4, by simpa using h5⟩
     · rw [Bool.not_eq_true] at hq; rw [hq] at h; cases h
   · cases h

def valOf (agg : Bool) (l : List Value) : Value := if agg then .agg l.toArray else l.getD 0 undef
structure EqIn (P : Program) (d : Nat) (t : TypeId) (ks : List LK) : Prop where
 size : P.cellsOf t = ks.length
 info : (P.info? t).isSome = true
 agg : ∃ g, (∀ w, (isAgg t).run P w = .ok g w) ∧ (g = false → ks.length = 1) ∧ ∀ xs ys r w, eqL ks xs ys = some r → (Op.equalIn d t (valOf g xs) (valOf g ys)).run P w = .ok r w

section
variable {P : Program}
theorem run_isAgg_of {t : TypeId} {d : TypeDesc} (h : P.underlying t = some d) (w : World) : (isAgg t).run P w = .ok (isAggD d) w := by
 unfold isAgg
 rw [Sem.run_bind, run_underlying h]
 cases d <;> simp [go_sem, isAggD]
theorem EqIn.bool {t : TypeId} (d : Nat) (h : P.underlying t = some .bool) (hi : (P.info? t).map (·.size) = some 1) : EqIn P (d + 1) t [.b] := by
 obtain ⟨i, h1, h2⟩ : ∃ i, P.info? t = some i ∧ i.size = 1 := by cases hx : P.info? t with | none => rw [hx] at hi; cases hi | some i => rw [hx] at hi; exact ⟨i, rfl, by simpa using hi⟩
 refine ⟨by simp [Program.cellsOf, h1, h2], by rw [h1]; rfl, false, run_isAgg_of h, fun _ => rfl, fun xs ys r w he => ?_⟩
 rcases xs with _ | ⟨x, xs⟩
 · simp [eqL] at he
 rcases ys with _ | ⟨y, ys⟩
 · cases x <;> simp [eqL] at he
 cases x <;> cases y <;> simp only [eqL] at he <;> try (cases he; done)
 rcases xs with _ | ⟨x, xs⟩ <;> rcases ys with _ | ⟨y, ys⟩ <;> simp only [eqL] at he <;> try (cases he; done)
 cases he
 simp only [valOf, Bool.false_eq_true, if_false, List.getD_cons_zero, Bool.and_true]
 exact run_equalIn_bool' w d t _ _ h
theorem EqIn.str {t : TypeId} (d : Nat) (h : P.underlying t = some .string) (hi : (P.info? t).map (·.size) = some 1) : EqIn P (d + 1) t [.s] := by
 obtain ⟨i, h1, h2⟩ : ∃ i, P.info? t = some i ∧ i.size = 1 := by cases hx : P.info? t with | none => rw [hx] at hi; cases hi | some i => rw [hx] at hi; exact ⟨i, rfl, by simpa using hi⟩
 refine ⟨by simp [Program.cellsOf, h1, h2], by rw [h1]; rfl, false, run_isAgg_of h, fun _ => rfl, fun xs ys r w he => ?_⟩
 rcases xs with _ | ⟨x, xs⟩
 · simp [eqL] at he
 rcases ys with _ | ⟨y, ys⟩
 · cases x <;> simp [eqL] at he
 cases x <;> cases y <;> simp only [eqL] at he <;> try (cases he; done)
 rcases xs with _ | ⟨x, xs⟩ <;> rcases ys with _ | ⟨y, ys⟩ <;> simp only [eqL] at he <;> try (cases he; done)
 cases he
 simp only [valOf, Bool.false_eq_true, if_false, List.getD_cons_zero, Bool.and_true]
 exact run_equalIn_string w d t _ _ h
theorem EqIn.int {t : TypeId} {k : IntKind} (d : Nat) (h : P.underlying t = some (.int k)) (hi : (P.info? t).map (·.size) = some 1) : EqIn P (d + 1) t [.i k] := by
 obtain ⟨i, h1, h2⟩ : ∃ i, P.info? t = some i ∧ i.size = 1 := by cases hx : P.info? t with | none => rw [hx] at hi; cases hi | some i => rw [hx] at hi; exact ⟨i, rfl, by simpa using hi⟩
 refine ⟨by simp [Program.cellsOf, h1, h2], by rw [h1]; rfl, false, run_isAgg_of h, fun _ => rfl, fun xs ys r w he => ?_⟩
 rcases xs with _ | ⟨x, xs⟩
 · simp [eqL] at he
 rcases ys with _ | ⟨y, ys⟩
 · cases x <;> simp [eqL] at he
 cases x <;> cases y <;> simp only [eqL] at he <;> try (cases he; done)
 rename_i q1 a q2 b
 rcases xs with _ | ⟨x, xs⟩ <;> rcases ys with _ | ⟨y, ys⟩ <;> simp only [eqL] at he <;> try (cases he; done)
 by_cases hq : (decide (k = q1) && decide (k = q2)) = true
 · rw [hq] at he
   cases he
   simp only [Bool.and_eq_true, decide_eq_true_eq] at hq
   obtain ⟨rfl, rfl⟩ := hq
   simp only [valOf, Bool.false_eq_true, if_false, List.getD_cons_zero, Bool.and_true]
   exact run_equalIn_int w d t _ _ _ _ h
 · rw [Bool.not_eq_true] at hq; rw [hq] at he; cases he

inductive FieldsEq (P : Program) (d : Nat) : Nat → List Field → List LK → Prop
 | nil (off : Nat) : FieldsEq P d off [] []
 | cons {off : Nat} {f : Field} {fs : List Field} {k1 k2 : List LK} (hn : (f.name == "_") = false) (ho : f.offset = off) (he : EqIn P d f.type k1) (hr : FieldsEq P d (off + k1.length) fs k2) : FieldsEq P d off (f :: fs) (k1 ++ k2)

theorem run_part_of {t : TypeId} {d : Nat} {ks : List LK} (h : EqIn P d t ks) {g : Bool} (hg : ∀ w, (isAgg t).run P w = .ok g w) (h1 : g = false → ks.length = 1) {cs : Array Value} {off : Nat} (hlen : ((cs.toList.drop off).take ks.length).length = ks.length) (w : World) :
   (part t cs off).run P w = .ok (valOf g ((cs.toList.drop off).take ks.length)) w := by
 unfold part
 rw [Sem.run_bind, hg]
 simp only [Result.andThen]
 cases g with
 | true =>
   simp only [if_true]
   have hs : (sizeOf t).run P w = .ok ks.length w := by
     obtain ⟨i, hi⟩ := Option.isSome_iff_exists.1 h.info
     rw [run_sizeOf w hi, h.size]
   rw [Sem.run_bind, hs]
   simp only [Result.andThen, Sem.run_pure, valOf, if_true]
   congr 2
   apply Array.ext'
   rw [Array.toList_extract]
   simp [List.extract]
 | false =>
   simp only [Bool.false_eq_true, if_false]
   have h1' := h1 rfl
   rw [h1'] at hlen ⊢
   have hlt : off < cs.size := by simp at hlen; omega
   have : cs[off]? = some cs[off] := by simp [hlt]
   rw [this]
   have e : (cs.toList.drop off).take 1 = [cs[off]] := by
     rw [List.drop_eq_getElem_cons (by simpa using hlt)]
     simp
   rw [e]
   rfl

theorem eqFields_ok {d : Nat} {xs ys : Array Value} {w : World} : ∀ {off : Nat} {fs : List Field} {ks : List LK} {r : Bool}, FieldsEq P d off fs ks → eqL ks (xs.toList.drop off) (ys.toList.drop off) = some r → (Op.eqFields d xs ys fs).run P w = .ok r w
 | off, [], _, r, .nil _, h => by
   have : r = true := by
     revert h
     rcases xs.toList.drop off with _ | ⟨x, xs⟩ <;> rcases ys.toList.drop off with _ | ⟨y, ys⟩ <;> intro h <;> simp [eqL] at h
     exact h
   subst this
   simp [Op.eqFields]
 | off, f :: fs, _, r, .cons (k1 := k1) (k2 := k2) hn ho he hr, h => by
   have hn' : f.name ≠ "_" := by simpa using hn
   obtain ⟨r1, r2, h1, h2, rfl, h4, h5⟩ := eqL_split k1 k2 _ _ _ h
   obtain ⟨g, hg, hg1, heq⟩ := he.agg
   have hx := run_part_of he hg hg1 h4 w
   have hy := run_part_of he hg hg1 h5 w
   rw [Op.eqFields, if_pos hn', ho]
   rw [Sem.run_bind, hx]
   simp only [Result.andThen]
   rw [Sem.run_bind, hy]
   simp only [Result.andThen]
   rw [Sem.run_bind, heq _ _ _ _ h1]
   simp only [Result.andThen]
   rw [List.drop_drop, List.drop_drop] at h2
   have ih := eqFields_ok (w := w) hr h2
   cases r1
   · simp
   · simpa using ih

theorem EqIn.struct {t : TypeId} {d : Nat} {fs : Array Field} {ks : List LK} (hu : P.underlying t = some (.struct fs)) (hp : P.stoodInHeld t = false) (hi : (P.info? t).map (·.size) = some ks.length) (hf : FieldsEq P d 0 fs.toList ks) : EqIn P (d + 1) t ks := by
 obtain ⟨i, h1, h2⟩ : ∃ i, P.info? t = some i ∧ i.size = ks.length := by cases hx : P.info? t with | none => rw [hx] at hi; cases hi | some i => rw [hx] at hi; exact ⟨i, rfl, by simpa using hi⟩
 refine ⟨by simp [Program.cellsOf, h1, h2], by rw [h1]; rfl, true, run_isAgg_of hu, fun h => (by cases h), fun xs ys r w he => ?_⟩
 have hfs : P.fieldsOf t = fs := by simp [Program.fieldsOf, hu]
 simp only [valOf, if_true]
 rw [run_equalIn_struct w d t _ _ (by rw [hfs]; exact hu) hp, hfs]
 exact eqFields_ok hf (by simpa using he)

theorem EqLaw.of {t : TypeId} {ks : List LK} {fs : Array Field} (hu : P.underlying t = some (.struct fs)) (hg : P.eqGuardType P.depth t = false) (h : EqIn P 10000 t ks) : EqLaw P t ks := by
 intro xs ys r x y w he
 obtain ⟨g, hag, _, heq⟩ := h.agg
 have hgt : g = true := by
   have := run_isAgg_of hu w
   rw [hag w] at this
   simpa [isAggD] using this
 subst hgt
 have h1 := heq xs.toList ys.toList r w he
 simp only [valOf, if_true, Array.toArray_toList] at h1
 constructor
 · rw [Sem.run_bind, run_eqGuard_agg w .eql t x y xs ys hg]
   simp only [Result.andThen, binOp, Op.equal]
   rw [Sem.run_bind]
   show ((Op.equalIn 10000 t (.agg xs) (.agg ys)).run P w).andThen _ = _
   rw [h1]
   rfl
 · rw [Sem.run_bind, run_eqGuard_agg w .neq t x y xs ys hg]
   simp only [Result.andThen, binOp, Op.equal]
   rw [Sem.run_bind]
   show ((Op.equalIn 10000 t (.agg xs) (.agg ys)).run P w).andThen _ = _
   rw [h1]
   rfl
end
end Go.Sx
end
section
/- A symbolic executor over loaded Go code: contracts; loops; what a state may be weakened to. -/
namespace Go.Sx
open Go Go.RowKit

section
variable {P : Program} {T : TT} {C : Cx} {E : Env} {st st' : SS}

theorem CallVCd.mono {g : FuncId} {args : List SV} {d : Option Tmp} {K K' : SV → Option ME → Prop} (h : CallVCd P g args d st K) (hk : ∀ x m, K x m → K' x m) : CallVCd P g args d st K' :=
 ⟨h.enters, h.out.imp (fun ⟨r, h1, h2⟩ => ⟨r, h1, hk _ _ h2⟩) (fun ⟨t, es, n, xs, h1, h2⟩ => ⟨t, es, n, xs, h1, hk _ _ h2⟩)⟩
theorem updK_mono {o : Oper} {K K' : SS → Prop} (hk : ∀ s, K s → K' s) {x : SV} {m : Option ME} (h : updK o st K x m) : updK o st K' x m := by
 unfold updK at *
 split at h
 · exact hk _ h
 · split at h
   · exact bifn_mono (hk _) h
   · exact h.elim
theorem dsop_mono {o : Oper} {K K' : SS → Prop} (hk : ∀ s, K s → K' s) (h : dsop P T C o st K) : dsop P T C o st K' := by
 unfold dsop at *
 cases hd : dstOk C.N o.dst with
 | false => rw [hd] at h; exact h.elim
 | true =>
   rw [hd] at h
   simp only [cond_true] at h ⊢
   split at h
   · exact andc_mono (hk _) h
   · split at h
     · exact bifn_mono (andc_mono (hk _)) h
     · exact h.elim
   · unfold dsopX at *
     split at h
     · exact sopLoad_mono (fun _ => hk _) h
     · split at h
       · split at h
         · exact h.mono fun x m => updK_mono hk
         · exact h.elim
       · exact h.elim
     · exact h.elim
theorem dsopG_mono {all : List Oper} {o : Oper} {K K' : SS → Prop} (hk : ∀ s, K s → K' s) (h : dsopG P T C all o st K) : dsopG P T C all o st K' := by
 unfold dsopG at *
 split at h
 · exact dsop_mono hk h
 · split at h
   · rename_i want _ _ t b _
     cases want
     · exact br_mono (bif_mono (hk _)) (dsop_mono hk) h
     · exact br_mono (dsop_mono hk) (bif_mono (hk _)) h
   · exact bif_mono (bif_mono (hk _)) h
theorem sops_mono {all : List Oper} {K K' : SS → Prop} (hk : ∀ s, K s → K' s) : ∀ {l : List Oper} {st : SS}, sops P T C all l st K → sops P T C all l st K'
 | [], _, h => hk _ h
 | o :: r, _, h => sopG_mono (fun s hs => sops_mono hk hs) h
theorem dops_mono {all : List Oper} {late : Late} {m : Nat} {K K' : SS → Prop} (hk : ∀ s, K s → K' s) : ∀ {l : List (Nat × Oper)} {st : SS}, dops P T C all late m l st K → dops P T C all late m l st K'
 | [], _, h => hk _ h
 | (i, o) :: r, st, h => by
   simp only [dops] at h ⊢
   cases hq : isQ late m i with
   | true =>
     rw [hq] at h
     simp only [cond_true] at h ⊢
     cases hl : lateOk late i st o with
     | false => rw [hl] at h; exact h.elim
     | true => rw [hl] at h; exact dsopG_mono (fun s hs => dops_mono hk hs) h
   | false =>
     rw [hq] at h
     simp only [cond_false] at h ⊢
     cases hl : lateOf late i with
     | none => rw [hl] at h; exact sopG_mono (fun s hs => dops_mono hk hs) h
     | some κ =>
       rw [hl] at h
       simp only at h ⊢
       cases hs : storeBox T st o κ with
       | none => rw [hs] at h; exact h.elim
       | some mm => rw [hs] at h; exact dops_mono hk h
theorem sexec_mono : ∀ (c : Code) {st : SS} {Q Q' : Exit → SS → Prop}, (∀ e s, Q e s → Q' e s) → sexec P T C c st Q → sexec P T C c st Q'
 | .skip, _, _, _, hq, h => hq _ _ h
 | .label _, _, _, _, hq, h => hq _ _ h
 | .region _ ops draw, _, _, _, hq, h => by
   cases draw with
   | false => exact sops_mono (fun s => hq _ s) h
   | true => exact DrawVC.mono h fun m l hm => dops_mono (fun s => hq _ s) hm
 | .seq x y, _, _, _, hq, h => sexec_mono x (fun e s hs => by cases e with | normal => exact sexec_mono y hq hs | _ => exact hq _ _ hs) h
 | .cond c x y, _, _, _, hq, h => by
   simp only [sexec] at h ⊢
   split at h
   · exact br_mono (sexec_mono x hq) (sexec_mono y hq) h
   · exact h.elim
 | .block id c, _, _, _, hq, h => sexec_mono c (fun e s hs => by
     cases e with
     | exit j =>
       simp only at hs ⊢
       cases hb : Nat.beq j id with
       | true => rw [hb] at hs; exact hq _ _ hs
       | false => rw [hb] at hs; exact hq _ _ hs
     | _ => exact hq _ _ hs) h
 | .loop c, _, _, _, hq, h => by
   obtain ⟨ι, I, μ, i, hi, hr⟩ := h
   exact ⟨ι, I, μ, i, hi, fun i => sexec_mono c (fun e s hs => by cases e with | normal => exact hs | _ => exact hq _ _ hs) (hr i)⟩
 | .exit _, _, _, _, hq, h => hq _ _ h
 | .goto _, _, _, _, hq, h => hq _ _ h
 | .ret, _, _, _, hq, h => hq _ _ h
 | .rangeFunc _ _ _ _, _, _, _, _, h => h.elim
 | .scope _, _, _, _, _, h => h.elim
 | .refuse _, _, _, _, _, h => h.elim

theorem sexec_loop {c : Code} {Q : Exit → SS → Prop} {ι : Type} (I : ι → SS) (J : ι → Prop) (μ : ι → Nat) (i0 : ι) (h0 : J i0) (hi : SLe C st (I i0))
   (hr : ∀ i, J i → sexec P T C c (I i) (fun e s => match e with
     | .normal => ∃ j, J j ∧ μ j < μ i ∧ SLe C s (I j)
     | e => Q e s)) : sexec P T C (.loop c) st Q :=
 ⟨{ i // J i }, fun i => I i.1, fun i => μ i.1, ⟨i0, h0⟩, hi, fun i => sexec_mono c (fun e s hs => by
   cases e with
   | normal => obtain ⟨j, h1, h2, h3⟩ := hs; exact ⟨⟨j, h1⟩, h2, h3⟩
   | _ => exact hs) (hr i.1 i.2)⟩

def CP.ren (ρ : Nat → Nat) : CP → CP
 | .e x => .e x
 | .l k => .l (ρ k)
def TP.ren (ρ : Nat → Nat) : TP → TP
 | .e x => .e x
 | .p k off => .p (ρ k) off
 | .s k off n m => .s (ρ k) off n m
 | .w k => .w (ρ k)
def AV.ren (ρ : Nat → Nat) : AV → AV
 | .v x => .v x
 | .p k off => .p (ρ k) off
 | .clo f caps => .clo f (caps.map (CP.ren ρ))
 | .s k off n m => .s (ρ k) off n m
 | .w k => .w (ρ k)
 | .tu xs => .tu (xs.map (TP.ren ρ))
def SV.ren (ρ : Nat → Nat) : SV → SV
 | .o x => .o (x.ren ρ)
 | .a xs => .a (xs.map (AV.ren ρ))
def ME.ren (ρ : Nat → Nat) : ME → ME
 | .box cs t => .box (cs.map (AV.ren ρ)) t
 | .sym cs t => .sym cs t
 | .own t es n xs => .own t es n xs
def Env.ren (E : Env) (ρ : Nat → Nat) : Env := ⟨fun k => E.β (ρ k), fun k => E.ω (ρ k)⟩
theorem CP.real_ren (E : Env) (ρ : Nat → Nat) (x : CP) : x.real (E.ren ρ) = (x.ren ρ).real E := by cases x <;> rfl
theorem TP.real_ren (E : Env) (ρ : Nat → Nat) (x : TP) : x.real (E.ren ρ) = (x.ren ρ).real E := by cases x <;> rfl
theorem AV.real_ren (E : Env) (ρ : Nat → Nat) (x : AV) : x.real (E.ren ρ) = (x.ren ρ).real E := by
 cases x with
 | clo f caps => simp only [AV.real, AV.ren, List.map_map]; congr 2; exact List.map_congr_left fun y _ => CP.real_ren E ρ y
 | tu xs => simp only [AV.real, AV.ren, List.map_map]; congr 2; exact List.map_congr_left fun y _ => TP.real_ren E ρ y
 | _ => rfl
theorem SV.real_ren (E : Env) (ρ : Nat → Nat) (x : SV) : x.real (E.ren ρ) = (x.ren ρ).real E := by
 cases x with
 | o x => exact AV.real_ren E ρ x
 | a xs => simp only [SV.real, SV.ren, List.map_map]; congr 2; exact List.map_congr_left fun y _ => AV.real_ren E ρ y
theorem AV.map_ren (E : Env) (ρ : Nat → Nat) (xs : List AV) : xs.map (AV.real (E.ren ρ)) = (xs.map (AV.ren ρ)).map (AV.real E) := by
 rw [List.map_map]; exact List.map_congr_left fun y _ => AV.real_ren E ρ y

inductive MEle : ME → ME → Prop where
 | refl (m : ME) : MEle m m
 | sym {cs : List AV} {vs : List Value} (t : TypeId) (h : allV cs = some vs) : MEle (.box cs t) (.sym vs t)
theorem MEle.ok {m m' : ME} (h : MEle m m') {w : World} {k : Nat} (hm : MEok E w k m) : MEok E w k m' := by
 cases h with
 | refl => exact hm
 | sym t h => obtain ⟨b, h1, h2⟩ := hm; exact ⟨b, h1, by rw [h2, allV_real E h]⟩
theorem MEok.ren {ρ : Nat → Nat} {w : World} {k : Nat} {m : ME} (h : MEok E w (ρ k) (m.ren ρ)) : MEok (E.ren ρ) w k m := by
 cases m with
 | box cs t => obtain ⟨b, h1, h2⟩ := h; exact ⟨b, h1, by rw [h2, AV.map_ren]⟩
 | sym cs t => exact h
 | own t es n xs => exact h

def TmLe (ρ : Nat → Nat) (st : SS) : List (Nat × SV) → Prop
 | [] => True
 | (i, x) :: r => lk i st.tm = some (x.ren ρ) ∧ TmLe ρ st r
def MeLe (ρ : Nat → Nat) (st : SS) : List (Nat × ME) → Prop
 | [] => True
 | (k, m) :: r => (∃ m', lk (ρ k) st.me = some m' ∧ MEle m' (m.ren ρ)) ∧ MeLe ρ st r
def injB (ρ : Nat → Nat) : List (Nat × ME) → Bool
 | [] => true
 | (k, _) :: r => r.all (fun e => Nat.beq e.1 k || !(Nat.beq (ρ e.1) (ρ k))) && injB ρ r
theorem TmLe.get {ρ : Nat → Nat} : ∀ {l : List (Nat × SV)}, TmLe ρ st l → ∀ i x, lk i l = some x → lk i st.tm = some (x.ren ρ)
 | [], _, i, x, h => by simp [lk] at h
 | (j, y) :: r, h, i, x, hx => by
   rw [lk_cons] at hx
   split at hx
   · rename_i e; subst e; cases hx; exact h.1
   · exact TmLe.get h.2 i x hx
theorem MeLe.get {ρ : Nat → Nat} : ∀ {l : List (Nat × ME)}, MeLe ρ st l → ∀ i x, lk i l = some x → ∃ m', lk (ρ i) st.me = some m' ∧ MEle m' (x.ren ρ)
 | [], _, i, x, h => by simp [lk] at h
 | (j, y) :: r, h, i, x, hx => by
   rw [lk_cons] at hx
   split at hx
   · rename_i e; subst e; cases hx; exact h.1
   · exact MeLe.get h.2 i x hx
theorem injB_get {ρ : Nat → Nat} : ∀ {l : List (Nat × ME)}, injB ρ l = true → ∀ p ∈ l, ∀ q ∈ l, ρ p.1 = ρ q.1 → p.1 = q.1
 | [], _, p, hp, _, _, _ => by cases hp
 | (k, m) :: r, h, p, hp, q, hq, e => by
   simp only [injB, Bool.and_eq_true, List.all_eq_true, Bool.or_eq_true, Bool.not_eq_true'] at h
   have hr : ∀ z ∈ r, ρ z.1 = ρ k → z.1 = k := fun z hz hz' => by
     rcases h.1 z hz with h1 | h1
     · exact Nat.eq_of_beq_eq_true h1
     · exact absurd hz' (beq_false.1 h1)
   rcases List.mem_cons.1 hp with rfl | hp <;> rcases List.mem_cons.1 hq with rfl | hq
   · rfl
   · exact (hr q hq e.symm).symm
   · exact hr p hp e
   · exact injB_get h.2 p hp q hq e

theorem SLe.trans {a b c : SS} (h : SLe C a b) (k : SLe C b c) : SLe C a c := fun x w hx => k x w (h x w hx)
theorem SLe.mk (ρ : Nat → Nat) (htm : TmLe ρ st st'.tm) (hme : MeLe ρ st st'.me) (hinj : injB ρ st'.me = true) (hre : ∀ R ∈ st'.re, R ∈ st.re) (hX : C.X = [] ∨ ∀ j, ρ (C.N + j) = C.N + j := by first | exact .inl rfl | exact .inr (fun _ => rfl)) : SLe C st st' := by
 rintro a w ⟨E, h⟩
 refine ⟨E.ren ρ, h.size, h.defers, fun i sv hi => ?_, fun k m hk => ?_, fun k m b hk hb => ?_, fun k k' m m' b hk hk' hb hb' => ?_, fun R hR => ?_, h.mem.ext, fun j b m hXj hj => ?_⟩
 · rw [SV.real_ren]; exact h.tm i _ (htm.get i sv hi)
 · obtain ⟨m', h1, h2⟩ := hme.get k m hk
   exact MEok.ren (h2.ok (h.mem.ent _ _ h1))
 · obtain ⟨m', h1, h2⟩ := hme.get k m hk
   exact h.mem.ge _ _ _ h1 hb
 · obtain ⟨m1, h1, _⟩ := hme.get k m hk
   obtain ⟨m2, h2, _⟩ := hme.get k' m' hk'
   exact injB_get hinj _ (lk_mem hk) _ (lk_mem hk') (h.mem.inj _ _ _ _ _ h1 h2 hb hb')
 · obtain ⟨r1, r2, r3⟩ := h.mem.res R (hre R hR)
   refine ⟨r1, r2, fun b hb => ⟨(r3 b hb).1, fun k m hk => ?_⟩⟩
   obtain ⟨m', h1, _⟩ := hme.get k m hk
   exact (r3 b hb).2 _ _ h1
 · rcases hX with hX | hX
   · rw [hX] at hXj; simp at hXj
   · obtain ⟨m', h1, _⟩ := hme.get _ m hj
     show E.β (ρ (C.N + j)) = some b
     rw [hX] at h1 ⊢
     exact h.mem.rig j b m' hXj h1
theorem SLe.id (htm : TmLe (fun k => k) st st'.tm) (hme : MeLe (fun k => k) st st'.me) (hre : ∀ R ∈ st'.re, R ∈ st.re) : SLe C st st' :=
 SLe.mk (fun k => k) htm hme (by
   have : ∀ l : List (Nat × ME), injB (fun k => k) l = true := by
     intro l
     induction l with
     | nil => rfl
     | cons p r ih =>
       obtain ⟨k, m⟩ := p
       simp only [injB, Bool.and_eq_true, List.all_eq_true]
       exact ⟨fun e _ => by cases Nat.beq e.1 k <;> rfl, ih⟩
   exact this _) hre (.inr (fun _ => rfl))
theorem SLe.nil (i z t es : Nat) (hi : lk i st.tm = some (.o (.v (.slice none 0 0)))) (hz : st.has z = false) (hX : C.X = [] := by rfl) : SLe C st ⟨(i, .o (.w z)) :: st.tm, (z, .own t es 0 []) :: st.me, st.re⟩ := by
 rintro a w ⟨E, h⟩
 have hbut := Env.setO_but E z none (0, 0)
 have hz' : ∀ {j m}, lk j st.me = some m → j ≠ z := fun hj => (SS.has_me hz hj).1
 refine ⟨E.setO z none (0, 0), h.size, h.defers, fun j sv hj => ?_, fun k m hk => ?_, fun k m b hk hb => ?_, fun k k' m m' b hk hk' hb hb' => ?_, fun R hR => ?_, h.mem.ext, fun j b m hXj hj => by rw [hX] at hXj; simp at hXj⟩
 · simp only [lk_cons] at hj
   split at hj
   · rename_i e; subst e; cases hj
     have := h.tm _ _ hi
     rw [this]
     simp [SV.real, AV.real, Env.setO]
   · rw [SV.real_but hbut (SS.has_tm hz hj)]; exact h.tm j sv hj
 · simp only [lk_cons] at hk
   split at hk
   · rename_i e; subst e; cases hk
     simp only [MEok, Env.setO, if_true, Option.map_none]
     exact World.ownsRow_nil _ _ _ _
   · rename_i e; exact (h.mem.ent k m hk).but hbut e (SS.has_me hz hk).2
 · simp only [lk_cons] at hk
   split at hk
   · rename_i e; subst e; simp [Env.setO] at hb
   · rename_i e; rw [(hbut _ e).1] at hb; exact h.mem.ge _ _ _ hk hb
 · simp only [lk_cons] at hk hk'
   split at hk
   · rename_i e; subst e; simp [Env.setO] at hb
   · rename_i e
     split at hk'
     · rename_i e'; subst e'; simp [Env.setO] at hb'
     · rename_i e'
       rw [(hbut _ e).1] at hb
       rw [(hbut _ e').1] at hb'
       exact h.mem.inj _ _ _ _ _ hk hk' hb hb'
 · obtain ⟨r1, r2, r3⟩ := h.mem.res R hR
   refine ⟨r1, r2, fun b hb => ⟨(r3 b hb).1, fun k m hk => ?_⟩⟩
   simp only [lk_cons] at hk
   split at hk
   · rename_i e; subst e; simp [Env.setO]
   · rename_i e; rw [(hbut _ e).1]; exact (r3 b hb).2 _ _ hk

def SlF (A : Option Addr) (xs : List Value) (w : World) : Prop := xs = [] ∨ ∃ b o, A = some ⟨b, o, none⟩ ∧ ∀ j v, xs[j]? = some v → w.cell? ⟨b, o + j, none⟩ = some v
def SlB (A : Option Addr) : List Value → List Nat
 | [] => []
 | _ :: _ => match A with
   | some a => [a.block]
   | none => []
def SlRes (A : Option Addr) (xs : List Value) : Res := ⟨SlB A xs, SlF A xs⟩
def Res.ok (R : Res) : Prop := R.stable ∧ ∀ w, R.φ w → ∀ b ∈ R.bs, IsC w b
def facts (re : List Res) (w : World) : Prop := ∀ R ∈ re, R.φ w

theorem SlF.cell {A : Option Addr} {xs : List Value} {w : World} (h : SlF A xs w) {j : Nat} {v : Value} (hj : xs[j]? = some v) : ∃ b o, A = some ⟨b, o, none⟩ ∧ w.cell? ⟨b, o + j, none⟩ = some v := by
 rcases h with rfl | ⟨b, o, hA, hc⟩
 · simp at hj
 · exact ⟨b, o, hA, hc j v hj⟩
theorem SlF.some {A : Option Addr} {xs : List Value} {w : World} (h : SlF A xs w) (hx : xs ≠ []) : A.isSome = true := by
 rcases h with rfl | ⟨b, o, rfl, _⟩
 · exact absurd rfl hx
 · rfl
theorem SlRes.ok (A : Option Addr) (xs : List Value) : (SlRes A xs).ok := by
 have hlk : ∀ {w : World} {b o j : Nat} {v : Value}, w.cell? ⟨b, o, none⟩ = some v → IsC w b := by
   intro w b o j v h
   unfold World.cell? at h
   unfold IsC
   cases hb : w.heap[b]? with
   | none => rw [show w.heap[(Addr.mk b o none).block]? = none from hb] at h; cases h
   | some ob =>
     cases ob with
     | cells cs t fr => exact ⟨_, rfl, rfl⟩
     | _ => rw [show w.heap[(Addr.mk b o none).block]? = some _ from hb] at h; cases h
 refine ⟨fun w w' h hb => ?_, fun w h b hb => ?_⟩
 · rcases h with h | ⟨b, o, hA, hc⟩
   · exact .inl h
   · rcases xs with _ | ⟨x, r⟩
     · exact .inl rfl
     · refine .inr ⟨b, o, hA, fun j v hj => ?_⟩
       have := hb b (by simp [SlRes, SlB, hA])
       rw [World.cell?_of_block this]
       exact hc j v hj
 · rcases xs with _ | ⟨x, r⟩
   · simp [SlRes, SlB] at hb
   · obtain ⟨b', o, hA, hc⟩ := SlF.cell (j := 0) h rfl
     simp only [SlRes, SlB, hA, List.mem_singleton] at hb
     subst hb
     exact hlk (j := 0) hc

theorem MemOk.init (w : World) (X : List Nat) (N : Nat) (E : Env) {re : List Res} (hok : ∀ R ∈ re, R.ok) (hre : facts re w) : MemOk ⟨w, X, N⟩ E [] re w :=
 ⟨fun _ _ h => by simp [lk] at h, fun _ _ _ h => by simp [lk] at h, fun _ _ _ _ _ h => by simp [lk] at h, fun R hR => ⟨(hok R hR).1, hre R hR, fun b hb => ⟨(hok R hR).2 w (hre R hR) b hb, fun _ _ h => by simp [lk] at h⟩⟩, Ext.refl _ _, fun _ _ _ _ h => by simp [lk] at h⟩

theorem own_slf {w : World} {base t es n : Nat} {v : Value} {xs : List Value} (h : w.ownsRow base t es v n xs) : ∃ A c, v = .slice A n c ∧ SlF A xs w := by
 obtain ⟨h1, ⟨rfl, rfl⟩ | ⟨g, cap, cur, rfl, _, h4, h5, h6, h7, h8⟩⟩ := h
 · exact ⟨none, 0, rfl, .inl (List.length_eq_zero_iff.1 (by simpa using h1))⟩
 · refine ⟨_, cap, rfl, .inr ⟨g, 0, rfl, fun j v hj => ?_⟩⟩
   rw [cell_of h4, Nat.zero_add]
   rw [← h8, List.getElem?_take] at hj
   split at hj
   · simpa using hj
   · cases hj
theorem own_arg {w : World} {k t es n : Nat} {xs : List Value} (h : MEok E w k (.own t es n xs)) : ∃ A c, (SV.o (.w k)).real E = .slice A n c ∧ SlF A xs w := own_slf h

structure FnM (P : Program) (f : FuncId) (vs : List Value) (pre : World → Prop) (R : World → Ending → World → Prop) : Prop where
 enters : Enters P f
 calls : ∀ w, pre w → Calls P f vs.toArray w (R w)
abbrev Fn (P : Program) (f : FuncId) (vs : List Value) (r : Value) : Prop := FnM P f vs (fun _ => True) (retsV r)

def postV (r : Value) (l : List SV) (_ : SS) : Prop := ∃ vs, l = vsv vs ∧ retV vs = r
def postO (t es n : Nat) (xs : List Value) (l : List SV) (st : SS) : Prop := ∃ k, l = [.o (.w k)] ∧ lk k st.me = some (.own t es n xs)

theorem own_raise {w : World} {t es n : Nat} {v : Value} {xs : List Value} {B : Nat} (h : w.ownsRow 0 t es v n xs) (hb : ∀ b, v.ownBlock = some b → B ≤ b) : w.ownsRow B t es v n xs := by
 obtain ⟨h1, h2 | ⟨g, cap, cur, rfl, _, h4⟩⟩ := h
 · exact ⟨h1, .inl h2⟩
 · exact ⟨h1, .inr ⟨g, cap, cur, rfl, hb g rfl, h4⟩⟩

theorem FnM.ofS (hT : TTgood P T) (hmix : P.follows .mixedOrders = true) {f : FuncId} {fn : Func} {c : Code} {vs : List Value} {re : List Res} {post : List SV → SS → Prop} {R : World → Ending → World → Prop}
   (hf : P.funcs[f]? = some fn) (hb : fn.body = some c) (hnm : (fn.name == "runtime.NumGoroutine") = false) (hn : vs.length ≤ fn.ntmps) (hok : ∀ R ∈ re, R.ok)
   (hR : ∀ w l st E w', post l st → MemOk ⟨w, [], fn.ntmps⟩ E st.me st.re w' → R w (.returned (retV (l.map (SV.real E)))) w')
   (hs : ∀ w, facts re w → WPS P ⟨w, [], fn.ntmps⟩ c ⟨argTm 0 (vsv vs), [], re⟩ (retQ T fn post)) : FnM P f vs (facts re) R := by
 refine ⟨enters_mk hf hnm (by rw [hb]; rfl), fun w hw => ?_⟩
 have E0 : Env := ⟨fun _ => none, fun _ => (0, 0)⟩
 have := calls_of_wps (T := T) hT hmix (E := E0) hf hb (by
   have : ∀ l : List Value, (vsv l).length = l.length := fun l => by induction l with | nil => rfl | cons x r ih => simp [vsv, ih]
   rw [this]; exact hn) (MemOk.init w [] fn.ntmps E0 hok hw) (hs w hw) (R := R w) (fun l st E' w' hp hm => hR w l st E' w' hp hm)
 rw [vsv_real] at this
 exact this
theorem FnM.of (hT : TTgood P T) (hmix : P.follows .mixedOrders = true) {f : FuncId} {fn : Func} {c : Code} {vs : List Value} {re : List Res} {post : List SV → SS → Prop} {R : World → Ending → World → Prop}
   (hf : P.funcs[f]? = some fn) (hb : fn.body = some c) (hnm : (fn.name == "runtime.NumGoroutine") = false) (hn : vs.length ≤ fn.ntmps) (hok : ∀ R ∈ re, R.ok)
   (hR : ∀ w l st E w', post l st → MemOk ⟨w, [], fn.ntmps⟩ E st.me st.re w' → R w (.returned (retV (l.map (SV.real E)))) w')
   (hs : ∀ w, facts re w → sexec P T ⟨w, [], fn.ntmps⟩ c ⟨argTm 0 (vsv vs), [], re⟩ (retQ T fn post)) : FnM P f vs (facts re) R :=
 FnM.ofS hT hmix hf hb hnm hn hok hR (fun w hw => WPS.of hT hmix (hs w hw))
theorem postV_ok {r : Value} {w : World} {N : Nat} {l : List SV} {st : SS} {E : Env} {w' : World} (h : postV r l st) (hm : MemOk ⟨w, [], N⟩ E st.me st.re w') : retsV r w (.returned (retV (l.map (SV.real E)))) w' := by
 obtain ⟨vs, rfl, rfl⟩ := h
 exact ⟨by rw [vsv_real], hm.ext.below⟩
theorem postO_ok {t es n : Nat} {xs : List Value} {w : World} {N : Nat} {l : List SV} {st : SS} {E : Env} {w' : World} (h : postO t es n xs l st) (hm : MemOk ⟨w, [], N⟩ E st.me st.re w') : retsO t es n xs w (.returned (retV (l.map (SV.real E)))) w' := by
 obtain ⟨k, rfl, hk⟩ := h
 refine ⟨_, rfl, own_raise (hm.ent _ _ hk) (fun b hb => ?_), hm.ext.below⟩
 have hbk : E.β k = some b := by
   replace hb : Value.ownBlock (.slice ((E.β k).map fun b => ⟨b, 0, none⟩) (E.ω k).1 (E.ω k).2) = some b := hb
   cases hβ : E.β k with
   | none => rw [hβ] at hb; cases hb
   | some c => rw [hβ] at hb; exact hb
 rcases (hm.ge _ _ _ hk hbk).1 with h | h
 · exact h
 · cases h

theorem Fn.of (hT : TTgood P T) (hmix : P.follows .mixedOrders = true) {f : FuncId} {fn : Func} {c : Code} {vs : List Value} {r : Value}
   (hf : P.funcs[f]? = some fn) (hb : fn.body = some c) (hnm : (fn.name == "runtime.NumGoroutine") = false) (hn : vs.length ≤ fn.ntmps)
   (hs : ∀ w, sexec P T ⟨w, [], fn.ntmps⟩ c ⟨argTm 0 (vsv vs), [], []⟩ (retQ T fn (postV r))) : Fn P f vs r := by
 have := FnM.of (re := []) hT hmix hf hb hnm hn (by simp) (fun w l st E w' hp hm => postV_ok hp hm) (fun w _ => hs w)
 exact ⟨this.enters, fun w _ => this.calls w (by simp [facts])⟩
theorem FnS.of (hT : TTgood P T) (hmix : P.follows .mixedOrders = true) {f : FuncId} {fn : Func} {c : Code} {vs : List Value} {re : List Res} {r : Value}
   (hf : P.funcs[f]? = some fn) (hb : fn.body = some c) (hnm : (fn.name == "runtime.NumGoroutine") = false) (hn : vs.length ≤ fn.ntmps) (hok : ∀ R ∈ re, R.ok)
   (hs : ∀ w, facts re w → sexec P T ⟨w, [], fn.ntmps⟩ c ⟨argTm 0 (vsv vs), [], re⟩ (retQ T fn (postV r))) : FnM P f vs (facts re) (retsV r) :=
 FnM.of hT hmix hf hb hnm hn hok (fun w l st E w' hp hm => postV_ok hp hm) hs
theorem FnO.of (hT : TTgood P T) (hmix : P.follows .mixedOrders = true) {f : FuncId} {fn : Func} {c : Code} {vs : List Value} {re : List Res} {t es n : Nat} {xs : List Value}
   (hf : P.funcs[f]? = some fn) (hb : fn.body = some c) (hnm : (fn.name == "runtime.NumGoroutine") = false) (hn : vs.length ≤ fn.ntmps) (hok : ∀ R ∈ re, R.ok)
   (hs : ∀ w, facts re w → sexec P T ⟨w, [], fn.ntmps⟩ c ⟨argTm 0 (vsv vs), [], re⟩ (retQ T fn (postO t es n xs))) : FnM P f vs (facts re) (retsO t es n xs) :=
 FnM.of hT hmix hf hb hnm hn hok (fun w l st E w' hp hm => postO_ok hp hm) hs

theorem CallV.pure {g : FuncId} {args : List SV} {vs : List Value} {R : World → Ending → World → Prop} (h : FnM P g vs (fun _ => True) R) (ha : args = vsv vs) : CallV P g args st R := by
 subst ha
 intro E w _ _
 rw [vsv_real]
 exact h.calls w trivial
theorem CallV.facts {g : FuncId} {args : List SV} {vs : List Value} {re : List Res} {R : World → Ending → World → Prop} (h : FnM P g vs (facts re) R) (ha : args = vsv vs) (hre : ∀ R ∈ re, R ∈ st.re) : CallV P g args st R := by
 subst ha
 intro E w _ hw
 rw [vsv_real]
 exact h.calls w (fun R hR => hw R (hre R hR))
theorem CallVC.v {g : FuncId} {args : List SV} {r : Value} {K : SV → SS → Prop} (hE : Enters P g) (h : CallV P g args st (retsV r)) (hk : K (.o (.v r)) st) : CallVC P C g args st K := by
 refine ⟨hE, fun E w hm => (h E w (fun k mm _ hk => hm.ent k mm hk) (fun R hR => (hm.res R hR).2.1)).mono ?_⟩
 rintro e w' ⟨rfl, hb⟩
 exact ⟨E, st, .o (.v r), rfl, hm.world (st := st) hb, KD.below hb, fun i sv hi => ⟨sv, hi, rfl⟩, hk⟩
theorem CallVC.o (z : Nat) {g : FuncId} {args : List SV} {t es n : Nat} {xs : List Value} {K : SV → SS → Prop} (hE : Enters P g) (h : CallV P g args st (retsO t es n xs)) (hz : st.has z = false)
   (hzN : dstOk C.N (some z) = true) (hk : K (.o (.w z)) (st.mem z (.own t es n xs))) : CallVC P C g args st K := by
 refine ⟨hE, fun E w hm => (h E w (fun k mm _ hk => hm.ent k mm hk) (fun R hR => (hm.res R hR).2.1)).mono ?_⟩
 rintro e w' ⟨v, rfl, hown, hb⟩
 obtain ⟨hbut, hreal, _⟩ := own_real (E := E) (d := z) hown
 exact ⟨sliceEnv E z v, st.mem z (.own t es n xs), .o (.w z), by rw [show (SV.o (.w z)).real (sliceEnv E z v) = v from hreal], MemOk.own (st := st) hm hzN hz hb hown, KD.below hb, fun i sv hi => ⟨sv, hi, SV.real_but hbut (SS.has_tm hz hi)⟩, hk⟩
theorem CallVC.fn {g : FuncId} {args : List SV} {vs : List Value} {r : Value} {K : SV → SS → Prop} (h : Fn P g vs r) (ha : args = vsv vs) (hk : K (.o (.v r)) st) : CallVC P C g args st K := CallVC.v h.enters (CallV.pure h ha) hk
theorem CallVCd.fn {g : FuncId} {args : List SV} {d : Option Tmp} {vs : List Value} {r : Value} {K : SV → Option ME → Prop} (h : Fn P g vs r) (ha : args = vsv vs) (hk : K (.o (.v r)) none) : CallVCd P g args d st K :=
 ⟨h.enters, .inl ⟨r, CallV.pure h ha, hk⟩⟩

theorem LoadVC.row {A A' : Option Addr} {xs : List Value} {off n : Nat} {agg : Bool} {K : SV → Prop} (hR : SlRes A xs ∈ st.re) (hA : A' = A.map (·.add off)) (hn : off + n ≤ xs.length) (h0 : 0 < n) (h1 : agg = false → n = 1)
   (hk : K (mkV agg ((xs.drop off).take n))) : LoadVC st n agg A' K := by
 refine ⟨_, ?_, h1, fun w hw => ?_, hk⟩
 · rw [List.length_take, List.length_drop]; omega
 · have hs : SlF A xs w := hw _ hR
   rcases hs with rfl | ⟨b, o, rfl, hc⟩
   · simp at hn; omega
   · refine ⟨b, o + off, by rw [hA]; simp [Addr.add_lit], fun j v hj => ?_⟩
     rw [List.getElem?_take] at hj
     split at hj
     · rw [List.getElem?_drop] at hj
       rw [Nat.add_assoc]
       exact hc _ v hj
     · cases hj

end
end Go.Sx
end
section
/- Numbers in digits: the plain side of the limbs and bytes. -/
namespace Go.Sx
open Go

def lv (B : Nat) : List Nat → Nat
 | [] => 0
 | x :: r => x + B * lv B r
def digs (B : Nat) (n : Nat) : List Nat := if h : n = 0 ∨ B < 2 then [] else n % B :: digs B (n / B)
termination_by n
decreasing_by exact Nat.div_lt_self (by omega) (by omega)

theorem digs_zero (B : Nat) : digs B 0 = [] := by rw [digs]; simp
theorem digs_pos {B n : Nat} (hB : 2 ≤ B) (hn : 0 < n) : digs B n = n % B :: digs B (n / B) := by rw [digs]; rw [dif_neg (by omega)]
theorem lv_digs {B : Nat} (hB : 2 ≤ B) (n : Nat) : lv B (digs B n) = n := by
 induction n using Nat.strongRecOn with
 | _ n ih =>
   rcases Nat.eq_zero_or_pos n with rfl | hn
   · rw [digs_zero]; rfl
   · rw [digs_pos hB hn, lv, ih _ (Nat.div_lt_self hn (by omega))]
     exact Nat.mod_add_div n B
theorem digs_lt {B : Nat} (hB : 2 ≤ B) (n : Nat) : ∀ x ∈ digs B n, x < B := by
 induction n using Nat.strongRecOn with
 | _ n ih =>
   rcases Nat.eq_zero_or_pos n with rfl | hn
   · rw [digs_zero]; simp
   · rw [digs_pos hB hn]
     intro x hx
     rcases List.mem_cons.1 hx with rfl | hx
     · exact Nat.mod_lt _ (by omega)
     · exact ih _ (Nat.div_lt_self hn (by omega)) x hx
theorem digs_lv {B : Nat} (hB : 2 ≤ B) : ∀ (l : List Nat), (∀ x ∈ l, x < B) → l.getLast? ≠ some 0 → digs B (lv B l) = l
 | [], _, _ => digs_zero B
 | x :: r, hl, h0 => by
   have hx : x < B := hl x (by simp)
   have hr : ∀ y ∈ r, y < B := fun y hy => hl y (List.mem_cons_of_mem _ hy)
   have hpos : 0 < lv B (x :: r) ∧ (r.getLast? ≠ some 0) := by
     rcases r with _ | ⟨y, r⟩
     · simp at h0
       exact ⟨by simp [lv]; omega, by simp⟩
     · have h1 : (y :: r).getLast? ≠ some 0 := by simpa [List.getLast?_cons_cons] using h0
       refine ⟨?_, h1⟩
       have ih := digs_lv hB (y :: r) hr h1
       have : lv B (y :: r) ≠ 0 := fun e => by rw [e, digs_zero] at ih; cases ih
       have : 0 < B * lv B (y :: r) := Nat.mul_pos (by omega) (by omega)
       show 0 < x + B * lv B (y :: r)
       omega
   rw [digs_pos hB hpos.1]
   have e1 : lv B (x :: r) % B = x := by simp [lv, Nat.mod_eq_of_lt hx]
   have e2 : lv B (x :: r) / B = lv B r := by
     simp only [lv]
     rw [Nat.add_mul_div_left _ _ (by omega), Nat.div_eq_of_lt hx, Nat.zero_add]
   rw [e1, e2, digs_lv hB r hr hpos.2]
theorem digs_last {B : Nat} (hB : 2 ≤ B) (n : Nat) : (digs B n).getLast? ≠ some 0 := by
 induction n using Nat.strongRecOn with
 | _ n ih =>
   rcases Nat.eq_zero_or_pos n with rfl | hn
   · rw [digs_zero]; simp
   · rw [digs_pos hB hn]
     by_cases hz : n / B = 0
     · rw [hz, digs_zero]
       have : n < B := by
         rcases Nat.lt_or_ge n B with h | h
         · exact h
         · have := Nat.div_pos h (show 0 < B by omega)
           rw [hz] at this; omega
       simp [Nat.mod_eq_of_lt this]; omega
     · have := digs_pos hB (Nat.pos_of_ne_zero hz)
       have h := ih (n / B) (Nat.div_lt_self hn (by omega))
       rw [this] at h ⊢
       rwa [List.getLast?_cons_cons]
theorem lv_append (B : Nat) : ∀ (l r : List Nat), lv B (l ++ r) = lv B l + B ^ l.length * lv B r
 | [], r => by simp [lv]
 | x :: l, r => by
   simp only [List.cons_append, lv, lv_append B l r, List.length_cons, Nat.pow_succ]
   rw [Nat.mul_add, ← Nat.mul_assoc, Nat.mul_comm B (B ^ l.length)]; omega
theorem lv_lt {B : Nat} (hB : 0 < B) : ∀ (l : List Nat), (∀ x ∈ l, x < B) → lv B l < B ^ l.length
 | [], _ => by simp [lv]
 | x :: r, h => by
   have hx := h x (by simp)
   have ih := lv_lt hB r (fun y hy => h y (List.mem_cons_of_mem _ hy))
   simp only [lv, List.length_cons, Nat.pow_succ]
   have : B * (lv B r + 1) ≤ B * B ^ r.length := Nat.mul_le_mul_left _ ih
   rw [Nat.mul_add, Nat.mul_one] at this
   rw [Nat.mul_comm (B ^ r.length) B]; omega
theorem lv_zeros (B : Nat) : ∀ n, lv B (List.replicate n 0) = 0
 | 0 => rfl
 | n + 1 => by simp [List.replicate_succ, lv, lv_zeros B n]
def tr : List Nat → List Nat
 | [] => []
 | x :: r => match tr r with
   | [] => if x = 0 then [] else [x]
   | y :: s => x :: y :: s
theorem tr_prefix : ∀ l : List Nat, ∃ k, l = tr l ++ List.replicate k 0
 | [] => ⟨0, rfl⟩
 | x :: r => by
   obtain ⟨k, hk⟩ := tr_prefix r
   simp only [tr]
   split
   · rename_i h
     rw [h, List.nil_append] at hk
     split
     · rename_i hx; exact ⟨k + 1, by rw [hx, List.replicate_succ, ← hk]; rfl⟩
     · exact ⟨k, by rw [← hk]; rfl⟩
   · rename_i y s h
     exact ⟨k, by rw [h] at hk; rw [List.cons_append, ← hk]⟩
theorem tr_last : ∀ l : List Nat, (tr l).getLast? ≠ some 0
 | [] => by simp [tr]
 | x :: r => by
   have ih := tr_last r
   simp only [tr]
   split
   · split
     · simp
     · rename_i hx; simpa using hx
   · rename_i y s h
     rw [h] at ih
     rwa [List.getLast?_cons_cons]
theorem tr_eq {B : Nat} (hB : 2 ≤ B) {l : List Nat} (hl : ∀ x ∈ l, x < B) : tr l = digs B (lv B l) := by
 obtain ⟨k, hk⟩ := tr_prefix l
 have hlv : lv B l = lv B (tr l) := by
   conv => lhs; rw [hk]
   rw [lv_append, lv_zeros]; simp
 rw [hlv, digs_lv hB _ (fun x hx => hl x (by rw [hk]; exact List.mem_append_left _ hx)) (tr_last l)]
theorem tr_length (l : List Nat) : (tr l).length ≤ l.length := by
 obtain ⟨k, hk⟩ := tr_prefix l
 conv => rhs; rw [hk]
 simp
theorem tr_take (l : List Nat) : l.take (tr l).length = tr l := by
 obtain ⟨k, hk⟩ := tr_prefix l
 have : (tr l ++ List.replicate k 0).take (tr l).length = tr l := List.take_left
 rwa [← hk] at this
theorem digs_length_le {B : Nat} (hB : 2 ≤ B) {n k : Nat} (h : n < B ^ k) : (digs B n).length ≤ k := by
 induction k generalizing n with
 | zero => have : n = 0 := by simpa using h
           subst this; simp [digs_zero]
 | succ k ih =>
   rcases Nat.eq_zero_or_pos n with rfl | hn
   · simp [digs_zero]
   · rw [digs_pos hB hn]
     have : n / B < B ^ k := Nat.div_lt_of_lt_mul (by rw [Nat.mul_comm, ← Nat.pow_succ]; exact h)
     have := ih this
     simp; omega
theorem le_of_digs_length {B : Nat} (hB : 2 ≤ B) {n : Nat} : n < B ^ (digs B n).length := by
 have := lv_lt (B := B) (by omega) (digs B n) (digs_lt hB n)
 rwa [lv_digs hB] at this
theorem digs_nil {B n : Nat} (hB : 2 ≤ B) : digs B n = [] ↔ n = 0 := by
 constructor
 · intro h
   have := lv_digs hB n
   rw [h] at this; exact this.symm
 · rintro rfl; exact digs_zero B
def bs (l : List UInt8) : ByteArray := ⟨⟨l⟩⟩
def nat (l : List UInt8) : Nat := lv 256 (l.reverse.map UInt8.toNat)
def bytes (n : Nat) : List UInt8 := ((digs 256 n).map UInt8.ofNat).reverse
theorem nat_nil : nat [] = 0 := rfl
theorem nat_snoc (l : List UInt8) (x : UInt8) : nat (l ++ [x]) = x.toNat + 256 * nat l := by simp [nat, lv]
theorem nat_cons (x : UInt8) (l : List UInt8) : nat (x :: l) = x.toNat * 256 ^ l.length + nat l := by
 simp only [nat, List.reverse_cons, List.map_append, lv_append, List.map_cons, List.map_nil, lv, List.length_map, List.length_reverse]
 rw [Nat.mul_zero, Nat.add_zero, Nat.mul_comm (256 ^ l.length)]; omega
theorem bytes_back (n : Nat) : (bytes n).reverse.map UInt8.toNat = digs 256 n := by
 simp only [bytes, List.reverse_reverse, List.map_map]
 conv => rhs; rw [← List.map_id (digs 256 n)]
 exact List.map_congr_left fun x hx => by
   have := digs_lt (B := 256) (by omega) n x hx
   simp [Function.comp, Nat.mod_eq_of_lt this]
theorem nat_bytes (n : Nat) : nat (bytes n) = n := by rw [nat, bytes_back, lv_digs (by omega)]
theorem bytes_nat {l : List UInt8} (h : l.head? ≠ some 0) : bytes (nat l) = l := by
 have hb : ∀ x ∈ l.reverse.map UInt8.toNat, x < 256 := fun x hx => by
   obtain ⟨y, _, rfl⟩ := List.mem_map.1 hx; exact y.toNat_lt
 have := digs_lv (B := 256) (by omega) (l.reverse.map UInt8.toNat) hb (by
   rw [List.getLast?_map, List.getLast?_reverse]
   cases hh : l.head? with
   | none => simp
   | some x =>
     simp only [Option.map_some, ne_eq, Option.some.injEq]
     intro e
     apply h
     rw [hh]
     congr 1
     exact UInt8.toNat_inj.1 (by simpa using e))
 rw [bytes, nat, this, List.map_map]
 have h2 : (UInt8.ofNat ∘ UInt8.toNat) = id := by funext x; simp
 rw [h2, List.map_id, List.reverse_reverse]
theorem bytes_zero : bytes 0 = [] := by simp [bytes, digs_zero]
theorem bytes_nil {n : Nat} : bytes n = [] ↔ n = 0 := ⟨fun h => by rw [← nat_bytes n, h]; rfl, fun h => by rw [h, bytes_zero]⟩
theorem bytes_length (n : Nat) : (bytes n).length = (digs 256 n).length := by simp [bytes]
theorem nat_lt (l : List UInt8) : nat l < 256 ^ l.length := by
 have := lv_lt (B := 256) (by omega) (l.reverse.map UInt8.toNat) (fun x hx => by obtain ⟨y, _, rfl⟩ := List.mem_map.1 hx; exact y.toNat_lt)
 simpa [nat] using this

def stripL : List UInt8 → List UInt8
 | [] => []
 | x :: r => if x = 0 then stripL r else x :: r
theorem nat_stripL : ∀ l : List UInt8, nat (stripL l) = nat l
 | [] => rfl
 | x :: r => by
   simp only [stripL]
   split
   · rename_i h; subst h; rw [nat_stripL r, nat_cons]; simp
   · rfl
theorem stripL_head : ∀ l : List UInt8, (stripL l).head? ≠ some 0
 | [] => by simp [stripL]
 | x :: r => by
   simp only [stripL]
   split
   · exact stripL_head r
   · rename_i h; simpa using h
theorem stripL_eq (l : List UInt8) : stripL l = bytes (nat l) := by rw [← nat_stripL l, bytes_nat (stripL_head l)]
theorem stripL_length : ∀ l : List UInt8, (stripL l).length ≤ l.length
 | [] => by simp [stripL]
 | x :: r => by
   simp only [stripL]
   split
   · have := stripL_length r; simp; omega
   · simp

theorem bs_toList (l : List UInt8) : (bs l).toList = l := ByteArray.toList_eq _
theorem bs_size (l : List UInt8) : (bs l).size = l.length := rfl
theorem bs_extract (l : List UInt8) (i j : Nat) : (bs l).extract i j = bs ((l.take j).drop i) := by
 apply ByteArray.ext
 rw [ByteArray.data_extract]
 apply Array.ext'
 simp [bs, List.extract_eq_take_drop]
 rw [List.drop_take]
theorem sb_bs (l : List UInt8) (i : Int) : sb (bs l) i = ((l.getD i.toNat 0).toNat : Int) := by
 unfold sb
 congr 2
 rw [List.getD_eq_getElem?_getD]
 congr 1
 by_cases h : i.toNat < l.length
 · rw [List.getElem?_eq_getElem h]
   exact getElem?_pos (bs l) _ h
 · rw [List.getElem?_eq_none (by omega)]
   exact getElem?_neg (bs l) _ h
theorem bs_surj (s : ByteArray) : s = bs s.data.toList := by cases s; rfl

theorem wrap_i64 {n : Int} (h1 : -9223372036854775808 ≤ n) (h2 : n ≤ 9223372036854775807) : IntKind.i64.wrap n = n := by rw [IntKind.wrap_i64]; omega

def rowV {α : Type} (f : α → List Value) : List α → List Value
 | [] => []
 | x :: r => f x ++ rowV f r
section
variable {α : Type} {f : α → List Value} {es : Nat}
theorem rowV_append (f : α → List Value) : ∀ (l r : List α), rowV f (l ++ r) = rowV f l ++ rowV f r
 | [], r => rfl
 | x :: l, r => by simp [rowV, rowV_append f l r]
theorem rowV_length (hf : ∀ x, (f x).length = es) : ∀ l : List α, (rowV f l).length = l.length * es
 | [] => by simp [rowV]
 | x :: l => by simp [rowV, hf, rowV_length hf l, Nat.add_mul, Nat.add_comm]
theorem rowV_drop (hf : ∀ x, (f x).length = es) : ∀ (k : Nat) (l : List α), (rowV f l).drop (k * es) = rowV f (l.drop k)
 | 0, l => by simp
 | k + 1, [] => by simp [rowV]
 | k + 1, x :: l => by
   simp only [rowV, List.drop_succ_cons]
   rw [List.drop_append, List.drop_of_length_le (by rw [hf, Nat.add_mul]; omega), hf, show (k + 1) * es - es = k * es by rw [Nat.add_mul]; omega, rowV_drop hf k l]; rfl
theorem rowV_take (hf : ∀ x, (f x).length = es) : ∀ (k : Nat) (l : List α), (rowV f l).take (k * es) = rowV f (l.take k)
 | 0, l => by simp [rowV]
 | k + 1, [] => by simp [rowV]
 | k + 1, x :: l => by
   simp only [rowV, List.take_succ_cons]
   rw [List.take_append, List.take_of_length_le (by rw [hf, Nat.add_mul]; omega), hf, show (k + 1) * es - es = k * es by rw [Nat.add_mul]; omega, rowV_take hf k l]
theorem rowV_part (hf : ∀ x, (f x).length = es) {k : Nat} {l : List α} {x : α} (h : l[k]? = some x) : ((rowV f l).drop (k * es)).take es = f x := by
 rw [rowV_drop hf]
 obtain ⟨hk, rfl⟩ := List.getElem?_eq_some_iff.1 h
 rw [List.drop_eq_getElem_cons hk, rowV, List.take_append, List.take_of_length_le (by rw [hf]; exact Nat.le_refl _), hf]
 simp
theorem rowV_put (hf : ∀ x, (f x).length = es) {k : Nat} {l : List α} (x : α) (hk : k < l.length) : putN (k * es) (f x) (rowV f l) = rowV f (l.set k x) := by
 have hlen := rowV_length hf l
 have : (k + 1) * es ≤ l.length * es := Nat.mul_le_mul_right _ hk
 rw [putN_eq _ _ _ (by rw [hf, hlen]; rw [Nat.add_mul] at this; omega), hf, show k * es + es = (k + 1) * es by rw [Nat.add_mul]; omega, rowV_take hf, rowV_drop hf, List.set_eq_take_append_cons_drop, if_pos hk, rowV_append]
 simp [rowV]
theorem rowV_repl (x : α) : ∀ n, rowV f (List.replicate n x) = repl n (f x)
 | 0 => rfl
 | n + 1 => by simp [List.replicate_succ, rowV, repl, rowV_repl x n]

theorem LoadVC.elem {st : SS} {A A' : Option Addr} {xs : List α} {j : Int} {n : Nat} {agg : Bool} {K : SV → Prop} (f : α → List Value) (hf : ∀ x, (f x).length = n) (hR : SlRes A (rowV f xs) ∈ st.re) (hA : A' = A.map (fun a => a.add (j.toNat * n)))
   (hj : j.toNat < xs.length) (h0 : 0 < n) (h1 : agg = false → n = 1) (hk : ∀ x, xs[j.toNat]? = some x → K (mkV agg (f x))) : LoadVC st n agg A' K := by
 have hx : xs[j.toNat]? = some xs[j.toNat] := List.getElem?_eq_getElem hj
 refine LoadVC.row hR hA ?_ h0 h1 ?_
 · rw [rowV_length hf]
   have : (j.toNat + 1) * n ≤ xs.length * n := Nat.mul_le_mul_right _ hj
   rw [Nat.add_mul] at this; omega
 · rw [rowV_part hf hx]; exact hk _ hx
theorem RowVC.elem {xs : List α} {k n : Nat} {agg : Bool} {K : SV → Prop} (f : α → List Value) (hf : ∀ x, (f x).length = n) {off : Nat} (ho : off = k * n) (hj : k < xs.length) (h0 : 0 < n) (h1 : agg = false → n = 1) (hk : ∀ x, xs[k]? = some x → K (mkV agg (f x))) :
   RowVC (rowV f xs) off n agg K := by
 subst ho
 have hx : xs[k]? = some xs[k] := List.getElem?_eq_getElem hj
 refine ⟨h0, f xs[k], hf _, h1, fun j x hj' => ?_, hk _ hx⟩
 rw [← rowV_part hf hx, List.getElem?_take] at hj'
 split at hj'
 · rwa [List.getElem?_drop] at hj'
 · cases hj'
end
theorem facts_one {R : Res} {w : World} (h : facts [R] w) : R.φ w := h R (List.mem_singleton.2 rfl)
theorem facts_two {R S : Res} {w : World} (h : facts [R, S] w) : R.φ w ∧ S.φ w := ⟨h R (by simp), h S (by simp)⟩
theorem slres_some {α : Type} {f : α → List Value} {A : Option Addr} {xs : List α} {w : World} (h : SlF A (rowV f xs) w) (hx : 0 < (rowV f xs).length) : A.isSome = true := SlF.some h (by intro e; rw [e] at hx; cases hx)

theorem postV_one {x r : Value} (h : x = r) : ∃ vs, [SV.o (.v x)] = vsv vs ∧ retV vs = r := ⟨[x], rfl, h⟩
theorem postV_two {x y r : Value} (h : Value.tuple #[x, y] = r) : ∃ vs, [SV.o (.v x), SV.o (.v y)] = vsv vs ∧ retV vs = r := ⟨[x, y], rfl, h⟩
theorem postV_three {x y z r : Value} (h : Value.tuple #[x, y, z] = r) : ∃ vs, [SV.o (.v x), SV.o (.v y), SV.o (.v z)] = vsv vs ∧ retV vs = r := ⟨[x, y, z], rfl, h⟩
end Go.Sx
end
section
/- A symbolic executor over loaded Go code: slices that are handed over. -/
namespace Go.Sx
open Go Go.RowKit

section
variable {P : Program} {T : TT} {C : Cx} {E : Env} {st st' : SS}

def RdA (st : SS) (x : SV) (n : Nat) (xs : List Value) : Prop := ∀ E w, (∀ k mm, x.has k = true → lk k st.me = some mm → MEok E w k mm) → (∀ R ∈ st.re, R.φ w) → ∃ A c, x.real E = .slice A n c ∧ n ≤ c ∧ SlF A xs w
theorem RdA.val {A : Option Addr} {n c : Nat} {xs : List Value} (hn : n ≤ c) (h : SlRes A xs ∈ st.re) : RdA st (.o (.v (.slice A n c))) n xs := fun E w _ hw => ⟨A, c, rfl, hn, hw _ h⟩
theorem RdA.nil : RdA st (.o (.v (.slice none 0 0))) 0 [] := fun E w _ hw => ⟨none, 0, rfl, Nat.le_refl _, .inl rfl⟩
theorem RdA.own {k t es n : Nat} {xs : List Value} (h : lk k st.me = some (.own t es n xs)) : RdA st (.o (.w k)) n xs := fun E w hm _ => by
 have := hm k _ (by simp [SV.has, AV.has]) h
 obtain ⟨h1, hn, hh⟩ := own_cases this
 obtain ⟨A, c, h2, h3⟩ := own_arg (E := E) this
 refine ⟨A, c, h2, ?_, h3⟩
 have h4 : Value.slice ((E.β k).map fun b => ⟨b, 0, none⟩) (E.ω k).1 (E.ω k).2 = .slice A n c := h2
 injection h4 with _ _ h5
 rcases hh with ⟨_, h6, h7⟩ | ⟨b, cur, _, _, h6, _⟩
 · omega
 · omega
theorem RdA.box {k n c : Nat} {xs : List Value} (h : boxV st k = some xs) (hn : n ≤ c) : RdA st (.o (.s k 0 n c)) n xs := fun E w hm _ => by
 have hb : ∃ b ty, E.β k = some b ∧ w.heap[b]? = some (.cells xs.toArray ty (0, 0)) := by
   unfold boxV at h
   split at h
   · rename_i cs' ty hl
     obtain ⟨b, hb, hcells⟩ := hm k _ (by simp [SV.has, AV.has]) hl
     rw [allV_real E h] at hcells
     exact ⟨b, ty, hb, hcells⟩
   · rename_i cs' ty hl
     cases h
     obtain ⟨b, hb, hcells⟩ := hm k _ (by simp [SV.has, AV.has]) hl
     exact ⟨b, ty, hb, hcells⟩
   · cases h
 obtain ⟨b, ty, hb, hcells⟩ := hb
 refine ⟨some ⟨b, 0, none⟩, c, by simp [SV.real, AV.real, hb], hn, .inr ⟨b, 0, rfl, fun j v hj => ?_⟩⟩
 rw [cell_of hcells, Nat.zero_add]
 simpa using hj

theorem any_mem {args : List SV} {x : SV} (hx : x ∈ args) {k : Nat} (hk : x.has k = true) : args.any (SV.has k) = true := List.any_eq_true.2 ⟨x, hx, hk⟩
theorem CallV.sl1 {g : FuncId} {args : List SV} {R : World → Ending → World → Prop} {x : SV} {n : Nat} {xs : List Value} (mk : Value → List Value) (hx : RdA st x n xs) (hm : x ∈ args) (hargs : ∀ E, args.map (SV.real E) = mk (x.real E))
   (h : ∀ A c, n ≤ c → FnM P g (mk (.slice A n c)) (Sx.facts [SlRes A xs]) R) : CallV P g args st R := by
 intro E w he hw
 obtain ⟨A, c, hr, hn, hs⟩ := hx E w (fun k mm hk => he k mm (any_mem hm hk)) hw
 rw [hargs, hr]
 exact (h A c hn).calls w (fun R hR => by rw [List.mem_singleton] at hR; subst hR; exact hs)
theorem CallV.sl2 {g : FuncId} {args : List SV} {R : World → Ending → World → Prop} {x y : SV} {n m : Nat} {xs ys : List Value} (mk : Value → Value → List Value) (hx : RdA st x n xs) (hy : RdA st y m ys) (hmx : x ∈ args) (hmy : y ∈ args)
   (hargs : ∀ E, args.map (SV.real E) = mk (x.real E) (y.real E)) (h : ∀ A c B d, n ≤ c → m ≤ d → FnM P g (mk (.slice A n c) (.slice B m d)) (Sx.facts [SlRes A xs, SlRes B ys]) R) : CallV P g args st R := by
 intro E w he hw
 obtain ⟨A, c, hr, hn, hs⟩ := hx E w (fun k mm hk => he k mm (any_mem hmx hk)) hw
 obtain ⟨B, d, hr2, hn2, hs2⟩ := hy E w (fun k mm hk => he k mm (any_mem hmy hk)) hw
 rw [hargs, hr, hr2]
 exact (h A c B d hn hn2).calls w (fun R hR => by
   rcases List.mem_cons.1 hR with rfl | hR
   · exact hs
   · rw [List.mem_singleton] at hR; subst hR; exact hs2)

theorem SlF.take {A : Option Addr} {xs : List Value} {w : World} (h : SlF A xs w) (k : Nat) : SlF A (xs.take k) w := by
 rcases h with rfl | ⟨b, o, hA, hc⟩
 · exact .inl (by simp)
 · refine .inr ⟨b, o, hA, fun j v hj => hc j v ?_⟩
   rw [List.getElem?_take] at hj
   split at hj
   · exact hj
   · cases hj
theorem CallVC.cutR {g : FuncId} {A : Option Addr} {n n' c : Nat} {xs : List Value} {k : Nat} {K : SV → SS → Prop} (h : FnM P g [.slice A n c] (Sx.facts [SlRes A xs]) (retsV (.slice A n' c))) (hR : SlRes A xs ∈ st.re)
   (hk : K (.o (.v (.slice A n' c))) { st with re := SlRes A (xs.take k) :: st.re }) {args : List SV} (ha : args = [.o (.v (.slice A n c))]) : CallVC P C g args st K := by
 subst ha
 refine ⟨h.enters, fun E w hm => (h.calls w (fun R hR' => by rw [List.mem_singleton] at hR'; subst hR'; exact (hm.res _ hR).2.1)).mono ?_⟩
 rintro e w' ⟨rfl, hb⟩
 have hm' := hm.world (st := st) hb
 refine ⟨E, { st with re := SlRes A (xs.take k) :: st.re }, .o (.v (.slice A n' c)), rfl, ⟨hm'.ent, hm'.ge, hm'.inj, fun R hR' => ?_, hm'.ext, hm'.rig⟩, KD.below hb, fun i sv hi => ⟨sv, hi, rfl⟩, hk⟩
 rcases List.mem_cons.1 hR' with rfl | hR'
 · obtain ⟨r1, r2, r3⟩ := hm'.res _ hR
   refine ⟨(SlRes.ok _ _).1, SlF.take r2 k, fun b hb' => r3 b ?_⟩
   simp only [SlRes] at hb' ⊢
   rcases xs with _ | ⟨x, r⟩
   · simpa using hb'
   · rcases hxk : (x :: r).take k with _ | ⟨y, s⟩
     · rw [hxk] at hb'; simp [SlB] at hb'
     · rw [hxk] at hb'; simpa [SlB] using hb'
 · exact hm'.res R hR'
theorem CallVC.cutO (z : Nat) {g : FuncId} {t es n n' k : Nat} {xs : List Value} {K : SV → SS → Prop} (h : ∀ A c, n ≤ c → FnM P g [.slice A n c] (Sx.facts [SlRes A xs]) (retsV (.slice A n' c))) (hk : lk k st.me = some (.own t es n xs)) (hn : n' ≤ n) (hz : st.has z = false)
   (hzN : dstOk C.N (some z) = true) (hK : K (.o (.w z)) { st with me := (z, .own t es n' (xs.take (n' * es))) :: rmL k st.me }) {args : List SV} (ha : args = [.o (.w k)]) : CallVC P C g args st K := by
 subst ha
 refine ⟨(h none n (Nat.le_refl _)).enters, fun E w hm => ?_⟩
 have hent := hm.ent _ _ hk
 obtain ⟨A, c, hr, hnc, hs⟩ := RdA.own hk E w (fun k' mm _ hk' => hm.ent k' mm hk') (fun R hR => (hm.res R hR).2.1)
 rw [show [SV.o (.w k)].map (SV.real E) = [.slice A n c] by rw [List.map_cons, List.map_nil, hr]]
 refine ((h A c hnc).calls w (fun R hR => by rw [List.mem_singleton] at hR; subst hR; exact hs)).mono ?_
 rintro e w' ⟨rfl, hb⟩
 have hown : w.ownsRow 0 t es (.slice A n' c) n' (xs.take (n' * es)) ∨ n' = 0 := by
   have h2 : w.ownsRow 0 t es (.slice A n c) n xs := by rw [← hr]; exact hent
   obtain ⟨h3, ⟨_, h4⟩ | ⟨g', cap, cur, h4, h5, h6, h7, h8, h9, h10⟩⟩ := h2
   · right; omega
   · left
     injection h4 with h11 _ h12
     subst h11 h12
     have hle : n' * es ≤ n * es := Nat.mul_le_mul_right _ hn
     exact ⟨by rw [List.length_take, h3]; omega, .inr ⟨g', _, cur, rfl, h5, h6, by omega, h8, h9, by rw [← h10, List.take_take]; congr 1; omega⟩⟩
 have hown' : w.ownsRow 0 t es (.slice A n' c) n' (xs.take (n' * es)) := by
   rcases hown with h | h
   · exact h
   · -- nothing is left of it
     have h2 : w.ownsRow 0 t es (.slice A n c) n xs := by rw [← hr]; exact hent
     obtain ⟨h3, ⟨h4, h4'⟩ | ⟨g', cap, cur, h4, h5, h6, h7, h8, h9, h10⟩⟩ := h2
     · injection h4 with h11 h12 h13
       subst h h11 h13
       exact ⟨by simp, .inl ⟨rfl, rfl⟩⟩
     · injection h4 with h11 _ h12
       subst h h11 h12
       exact ⟨by simp, .inr ⟨g', _, cur, rfl, h5, h6, by omega, h8, h9, by simp⟩⟩
 have hfe : ({ st with tm := [] } : SS).has z = false := by
   unfold SS.has at hz ⊢
   rw [Bool.or_eq_false_iff] at hz
   simp only [List.any_nil, Bool.false_or]
   exact hz.2
 have hβ : ∀ b, (Value.slice A n' c).ownBlock = some b → E.β k = some b := by
   intro b hb'
   have h4 : Value.slice ((E.β k).map fun b => ⟨b, 0, none⟩) (E.ω k).1 (E.ω k).2 = .slice A n c := hr
   injection h4 with h5
   rw [← h5] at hb'
   cases he : E.β k with
   | none => rw [he] at hb'; cases hb'
   | some d => rw [he] at hb'; exact hb'
 have hC : ∀ b, E.β k = some b → IsC w b := by
   intro b hb'
   obtain ⟨_, _, ⟨h1, _⟩ | ⟨b2, cur, h1, h2, _⟩⟩ := own_cases hent
   · rw [h1] at hb'; cases hb'
   · rw [hb'] at h1; cases h1; exact ⟨_, h2, rfl⟩
 have hmo := ((MemOk.act (st := st) hm).own hzN hfe (kk := some k) (row := (Value.slice A n' c).ownBlock) (by exact Nat.le_refl _) (World.grownBy.refl_ w _) (fun b hb' => ⟨k, _, rfl, hk, hβ b hb', hC b (hβ b hb')⟩) hown' (fun b hb' => .inr hb')).mem
 obtain ⟨hbut, hreal, _⟩ := own_real (E := E) (d := z) hown'
 refine ⟨sliceEnv E z (.slice A n' c), { st with me := (z, .own t es n' (xs.take (n' * es))) :: rmL k st.me }, .o (.w z), by rw [show (SV.o (.w z)).real (sliceEnv E z (.slice A n' c)) = _ from hreal], ?_, KD.below hb, fun i sv hi => ⟨sv, hi, SV.real_but hbut (SS.has_tm hz hi)⟩, hK⟩
 exact MemOk.world (st := { tm := [], me := (z, .own t es n' (xs.take (n' * es))) :: rmL k st.me, re := st.re }) hmo hb

end
end Go.Sx
end
section
/- A symbolic executor over loaded Go code: tuples that hold rows; boxes that become rows. -/
namespace Go.Sx
open Go Go.RowKit

section
variable {P : Program} {T : TT} {C : Cx} {E : Env} {st st' : SS}

def retsT (t es n : Nat) (xs : List Value) (r : Value) (w : World) (e : Ending) (w' : World) : Prop := ∃ v, e = .returned (.tuple #[v, r]) ∧ w'.ownsRow w.heap.size t es v n xs ∧ Bel w.heap.size w w'
def postT (t es n : Nat) (xs : List Value) (r : Value) (l : List SV) (st : SS) : Prop := ∃ k, l = [.o (.w k), .o (.v r)] ∧ lk k st.me = some (.own t es n xs)
theorem own_ok {w : World} {N : Nat} {w' : World} {k t es n : Nat} {xs : List Value} (hm : MemOk ⟨w, [], N⟩ E st.me st.re w') (hk : lk k st.me = some (.own t es n xs)) : w'.ownsRow w.heap.size t es ((SV.o (.w k)).real E) n xs := by
 refine own_raise (hm.ent _ _ hk) (fun b hb => ?_)
 have hbk : E.β k = some b := by
   replace hb : Value.ownBlock (.slice ((E.β k).map fun b => ⟨b, 0, none⟩) (E.ω k).1 (E.ω k).2) = some b := hb
   cases hβ : E.β k with
   | none => rw [hβ] at hb; cases hb
   | some c => rw [hβ] at hb; exact hb
 rcases (hm.ge _ _ _ hk hbk).1 with h | h
 · exact h
 · cases h
theorem postT_ok {t es n : Nat} {xs : List Value} {r : Value} {w : World} {N : Nat} {l : List SV} {w' : World} (h : postT t es n xs r l st) (hm : MemOk ⟨w, [], N⟩ E st.me st.re w') : retsT t es n xs r w (.returned (retV (l.map (SV.real E)))) w' := by
 obtain ⟨k, rfl, hk⟩ := h
 exact ⟨_, rfl, own_ok hm hk, hm.ext.below⟩
theorem FnT.of (hT : TTgood P T) (hmix : P.follows .mixedOrders = true) {f : FuncId} {fn : Func} {c : Code} {vs : List Value} {re : List Res} {t es n : Nat} {xs : List Value} {r : Value}
   (hf : P.funcs[f]? = some fn) (hb : fn.body = some c) (hnm : (fn.name == "runtime.NumGoroutine") = false) (hn : vs.length ≤ fn.ntmps) (hok : ∀ R ∈ re, R.ok)
   (hs : ∀ w, facts re w → sexec P T ⟨w, [], fn.ntmps⟩ c ⟨argTm 0 (vsv vs), [], re⟩ (retQ T fn (postT t es n xs r))) : FnM P f vs (facts re) (retsT t es n xs r) :=
 FnM.of hT hmix hf hb hnm hn hok (fun w l st E w' hp hm => postT_ok hp hm) hs
theorem CallVC.t (z : Nat) {g : FuncId} {args : List SV} {t es n : Nat} {xs : List Value} {r : Value} {K : SV → SS → Prop} (hE : Enters P g) (h : CallV P g args st (retsT t es n xs r)) (hz : st.has z = false)
   (hzN : dstOk C.N (some z) = true) (hk : K (.o (.tu [.w z, .e r])) (st.mem z (.own t es n xs))) : CallVC P C g args st K := by
 refine ⟨hE, fun E w hm => (h E w (fun k mm _ hk => hm.ent k mm hk) (fun R hR => (hm.res R hR).2.1)).mono ?_⟩
 rintro e w' ⟨v, rfl, hown, hb⟩
 obtain ⟨hbut, hreal, _⟩ := own_real (E := E) (d := z) hown
 refine ⟨sliceEnv E z v, st.mem z (.own t es n xs), .o (.tu [.w z, .e r]), ?_, MemOk.own (st := st) hm hzN hz hb hown, KD.below hb, fun i sv hi => ⟨sv, hi, SV.real_but hbut (SS.has_tm hz hi)⟩, hk⟩
 have : TP.real (sliceEnv E z v) (.w z) = v := hreal
 show _ = Ending.returned (Value.tuple #[TP.real (sliceEnv E z v) (.w z), r])
 rw [this]

def retsD (v0 : Value) (x0 : List Value) (n0 : Nat) (t es n : Nat) (xs : List Value) (m : Nat) (ys : List Value) (w : World) (e : Ending) (w' : World) : Prop :=
 ∃ u v, e = .returned (.tuple #[u, v]) ∧ w'.ownsRow w.heap.size t es u n xs ∧ ((w'.ownsRow w.heap.size t es v m ys ∧ ∀ b, u.ownBlock = some b → v.ownBlock ≠ some b) ∨ (v = v0 ∧ ys = x0 ∧ m = n0)) ∧ Bel w.heap.size w w'
def postD (v0 : Value) (x0 : List Value) (n0 : Nat) (t es n : Nat) (xs : List Value) (m : Nat) (ys : List Value) (l : List SV) (st : SS) : Prop :=
 (∃ k j, l = [.o (.w k), .o (.w j)] ∧ k ≠ j ∧ lk k st.me = some (.own t es n xs) ∧ lk j st.me = some (.own t es m ys)) ∨
 (l = [.o (.v (.slice none 0 0)), .o (.v v0)] ∧ n = 0 ∧ xs = [] ∧ ys = x0 ∧ m = n0)
theorem postD_ok {v0 : Value} {x0 : List Value} {n0 t es n m : Nat} {xs ys : List Value} {w : World} {N : Nat} {l : List SV} {w' : World} (h : postD v0 x0 n0 t es n xs m ys l st) (hm : MemOk ⟨w, [], N⟩ E st.me st.re w') :
   retsD v0 x0 n0 t es n xs m ys w (.returned (retV (l.map (SV.real E)))) w' := by
 rcases h with ⟨k, j, rfl, hkj, hk, hj⟩ | ⟨rfl, rfl, rfl, h1, h2⟩
 · refine ⟨_, _, rfl, own_ok hm hk, .inl ⟨own_ok hm hj, fun b hb hb' => hkj ?_⟩, hm.ext.below⟩
   have hβ : ∀ {i : Nat}, ((SV.o (.w i)).real E).ownBlock = some b → E.β i = some b := by
     intro i hi
     replace hi : Value.ownBlock (.slice ((E.β i).map fun b => ⟨b, 0, none⟩) (E.ω i).1 (E.ω i).2) = some b := hi
     cases he : E.β i with
     | none => rw [he] at hi; cases hi
     | some c => rw [he] at hi; exact hi
   exact hm.inj _ _ _ _ _ hk hj (hβ hb) (hβ hb')
 · exact ⟨_, _, rfl, World.ownsRow_nil _ _ _ _, .inr ⟨rfl, h1, h2⟩, hm.ext.below⟩
theorem FnD.of (hT : TTgood P T) (hmix : P.follows .mixedOrders = true) {f : FuncId} {fn : Func} {c : Code} {vs : List Value} {re : List Res} {v0 : Value} {x0 : List Value} {n0 t es n m : Nat} {xs ys : List Value}
   (hf : P.funcs[f]? = some fn) (hb : fn.body = some c) (hnm : (fn.name == "runtime.NumGoroutine") = false) (hn : vs.length ≤ fn.ntmps) (hok : ∀ R ∈ re, R.ok)
   (hs : ∀ w, facts re w → sexec P T ⟨w, [], fn.ntmps⟩ c ⟨argTm 0 (vsv vs), [], re⟩ (retQ T fn (postD v0 x0 n0 t es n xs m ys))) : FnM P f vs (facts re) (retsD v0 x0 n0 t es n xs m ys) :=
 FnM.of hT hmix hf hb hnm hn hok (fun w l st E w' hp hm => postD_ok hp hm) hs

theorem MemOk.own' {me : List (Nat × ME)} {re : List Res} {w : World} (h : MemOk C E me re w) {d : Nat} (hf : me.any (fun e => Nat.beq e.1 d || e.2.has d) = false) {v : Value} {t es n : Nat} {xs : List Value}
   (hdN : dstOk C.N (some d) = true) (hown0 : w.ownsRow 0 t es v n xs) (hge : ∀ b, v.ownBlock = some b → (C.W0.heap.size ≤ b ∨ b ∈ C.X) ∧ b < w.heap.size) (hnew : ∀ b, v.ownBlock = some b → (∀ k m, lk k me = some m → E.β k ≠ some b) ∧ ∀ R ∈ re, b ∉ R.bs) :
   MemOk C (sliceEnv E d v) ((d, .own t es n xs) :: me) re w := by
 obtain ⟨hbut, hreal, hβd⟩ := own_real (E := E) (d := d) hown0
 have hfe : ({ tm := [], me := me, re := re } : SS).has d = false := by simp only [SS.has, List.any_nil, Bool.false_or]; exact hf
 have hne : ∀ {j m}, lk j me = some m → j ≠ d := fun hj => (SS.has_me (st := { tm := [], me := me, re := re }) hfe hj).1
 have hβ : ∀ {j}, j ≠ d → (sliceEnv E d v).β j = E.β j := fun hj => (hbut _ hj).1
 refine ⟨fun j m hj => ?_, fun j m b hj hb => ?_, fun j j' m m' b hj hj' hb hb' => ?_, fun R hR => ?_, h.ext, fun j b m hX hj => ?_⟩
 · simp only [lk_cons] at hj
   split at hj
   · rename_i e; subst e; cases hj
     have : Value.slice (((sliceEnv E j v).β j).map fun b => ⟨b, 0, none⟩) ((sliceEnv E j v).ω j).1 ((sliceEnv E j v).ω j).2 = v := hreal
     simp only [MEok, this]
     exact hown0
   · rename_i e; exact (h.ent j m hj).but hbut e (SS.has_me (st := { tm := [], me := me, re := re }) hfe hj).2
 · simp only [lk_cons] at hj
   split at hj
   · rename_i e; subst e; exact hge b ((hβd b).1 hb)
   · rename_i e; rw [hβ e] at hb; exact h.ge _ _ _ hj hb
 · simp only [lk_cons] at hj hj'
   split at hj <;> split at hj'
   · rename_i e e'; rw [e, e']
   · rename_i e e'; subst e; rw [hβ e'] at hb'; exact absurd hb' ((hnew b ((hβd b).1 hb)).1 _ _ hj')
   · rename_i e e'; subst e'; rw [hβ e] at hb; exact absurd hb ((hnew b ((hβd b).1 hb')).1 _ _ hj)
   · rename_i e e'; rw [hβ e] at hb; rw [hβ e'] at hb'; exact h.inj _ _ _ _ _ hj hj' hb hb'
 · obtain ⟨r1, r2, r3⟩ := h.res R hR
   refine ⟨r1, r2, fun b hb => ⟨(r3 b hb).1, fun j m hj hjb => ?_⟩⟩
   simp only [lk_cons] at hj
   split at hj
   · rename_i e; subst e; exact (hnew b ((hβd b).1 hjb)).2 R hR hb
   · rename_i e; rw [hβ e] at hjb; exact (r3 b hb).2 j m hj hjb
 · have hdN : d < C.N := Nat.le_of_ble_eq_true hdN
   simp only [lk_cons] at hj
   rw [if_neg (by omega)] at hj
   rw [hβ (by omega)]
   exact h.rig j b m hX hj
theorem MemOk.rm {me : List (Nat × ME)} {re : List Res} {w : World} (h : MemOk C E me re w) (k : Nat) : MemOk C E (rmL k me) re w := by
 have hl : ∀ {j m}, lk j (rmL k me) = some m → lk j me = some m ∧ j ≠ k := fun {j m} hj => by
   rw [lk_rmL] at hj
   split at hj
   · cases hj
   · rename_i e; exact ⟨hj, e⟩
 exact ⟨fun j m hj => h.ent j m (hl hj).1, fun j m b hj => h.ge j m b (hl hj).1, fun j j' m m' b hj hj' => h.inj j j' m m' b (hl hj).1 (hl hj').1,
   fun R hR => let ⟨r1, r2, r3⟩ := h.res R hR; ⟨r1, r2, fun b hb => ⟨(r3 b hb).1, fun j m hj => (r3 b hb).2 j m (hl hj).1⟩⟩, h.ext, fun j b m hX hj => h.rig j b m hX (hl hj).1⟩
theorem has_rm {st : SS} {z : Nat} (hz : st.has z = false) (k : Nat) : (rmL k st.me).any (fun e => Nat.beq e.1 z || e.2.has z) = false := by
 unfold SS.has at hz
 rw [Bool.or_eq_false_iff] at hz
 have : ∀ l : List (Nat × ME), l.any (fun e => Nat.beq e.1 z || e.2.has z) = false → (rmL k l).any (fun e => Nat.beq e.1 z || e.2.has z) = false := by
   intro l
   induction l with
   | nil => intro _; rfl
   | cons p r ih =>
     intro h
     obtain ⟨j, m⟩ := p
     simp only [List.any_cons, Bool.or_eq_false_iff] at h
     simp only [rmL]
     cases Nat.beq j k
     · simp only [cond_false, List.any_cons, Bool.or_eq_false_iff]; exact ⟨h.1, ih h.2⟩
     · exact ih h.2
 exact this _ hz.2
theorem CallVC.cutB (z : Nat) {g : FuncId} {t es n n' cp k : Nat} {cs : List AV} {xs : List Value} {K : SV → SS → Prop} (h : ∀ A c, n ≤ c → FnM P g [.slice A n c] (Sx.facts [SlRes A xs]) (retsV (.slice A n' c))) (hk : lk k st.me = some (.box cs t)) (hcs : allV cs = some xs) (hn : n' ≤ n) (hnc : n ≤ cp) (hmax : cp ≤ maxLen)
   (hlen : xs.length = cp * es) (hz : st.has z = false) (hzN : dstOk C.N (some z) = true) (hK : K (.o (.w z)) { st with me := (z, .own t es n' (xs.take (n' * es))) :: rmL k st.me }) {args : List SV} (ha : args = [.o (.s k 0 n cp)]) : CallVC P C g args st K := by
 subst ha
 refine ⟨(h none n (Nat.le_refl _)).enters, fun E w hm => ?_⟩
 have hbx : boxV st k = some xs := by unfold boxV; rw [hk]; exact hcs
 obtain ⟨b, hb, hcells⟩ := hm.ent _ _ hk
 rw [allV_real E hcs] at hcells
 have hreal : (SV.o (.s k 0 n cp)).real E = .slice (some ⟨b, 0, none⟩) n cp := by simp [SV.real, AV.real, hb]
 have hs : SlF (some ⟨b, 0, none⟩) xs w := .inr ⟨b, 0, rfl, fun j v hj => by rw [cell_of hcells, Nat.zero_add]; simpa using hj⟩
 rw [show [SV.o (.s k 0 n cp)].map (SV.real E) = [.slice (some ⟨b, 0, none⟩) n cp] by rw [List.map_cons, List.map_nil, hreal]]
 refine ((h _ cp hnc).calls w (fun R hR => by rw [List.mem_singleton] at hR; subst hR; exact hs)).mono ?_
 rintro e w' ⟨rfl, hbel⟩
 have hm' := (hm.world (st := st) hbel)
 have hcells' : w'.heap[b]? = some (.cells xs.toArray t (0, 0)) := by obtain ⟨b', h1, h2⟩ := hm'.ent _ _ hk; rw [hb] at h1; cases h1; rw [allV_real E hcs] at h2; exact h2
 have hle : n' * es ≤ cp * es := Nat.mul_le_mul_right _ (by omega)
 have hown : w'.ownsRow 0 t es (.slice (some ⟨b, 0, none⟩) n' cp) n' (xs.take (n' * es)) := ⟨by rw [List.length_take, hlen]; omega, .inr ⟨b, cp, xs.toArray, rfl, Nat.zero_le _, hcells', by omega, hmax, by simpa using hlen, by simp⟩⟩
 obtain ⟨hbut, hr, _⟩ := own_real (E := E) (d := z) hown
 have hmo := (hm'.rm k).own' (d := z) (has_rm hz k) hzN hown (fun b' hb' => by cases hb'; exact hm'.ge _ _ _ hk hb) (fun b' hb' => by
   cases hb'
   refine ⟨fun j m hj hjb => ?_, fun R hR hbR => (hm'.res R hR).2.2 b hbR |>.2 k _ hk hb⟩
   rw [lk_rmL] at hj
   split at hj
   · cases hj
   · rename_i e; exact e (hm'.inj _ _ _ _ _ hj hk hjb hb))
 exact ⟨_, { st with me := (z, .own t es n' (xs.take (n' * es))) :: rmL k st.me }, .o (.w z), by rw [show (SV.o (.w z)).real (sliceEnv E z _) = _ from hr], hmo, KD.below hbel, fun i sv hi => ⟨sv, hi, SV.real_but hbut (SS.has_tm hz hi)⟩, hK⟩

end
end Go.Sx
end
section
/- A symbolic executor over loaded Go code: calls that write a row of the caller's. -/
namespace Go.Sx
open Go Go.RowKit

section
variable {P : Program} {T : TT} {C : Cx} {E : Env} {st st' : SS}

structure FnW (P : Program) (f : FuncId) (vs : List Value) (re : List Res) (t n : Nat) (xs ys : List Value) (r : Value) : Prop where
 enters : Enters P f
 calls : ∀ (w : World) (b cap : Nat) (junk : List Value), w.heap[b]? = some (.cells (xs ++ junk).toArray t (0, 0)) → n ≤ cap → facts re w → (∀ R ∈ re, b ∉ R.bs) →
   Calls P f (Value.slice (some ⟨b, 0, none⟩) n cap :: vs).toArray w fun e w' => e = .returned r ∧ w'.heap[b]? = some (.cells (ys ++ junk).toArray t (0, 0)) ∧ w.grownBy w' (some b) ∧ w.drawn ≤ w'.drawn

theorem FnW.ofS (hT : TTgood P T) (hmix : P.follows .mixedOrders = true) {f : FuncId} {fn : Func} {c : Code} {vs : List Value} {re : List Res} {t n : Nat} {xs ys : List Value} {r : Value}
   (hf : P.funcs[f]? = some fn) (hb : fn.body = some c) (hnm : (fn.name == "runtime.NumGoroutine") = false) (hn : vs.length + 1 ≤ fn.ntmps) (hok : ∀ R ∈ re, R.ok)
   (hs : ∀ w b cap (junk : List Value), n ≤ cap → facts re w → WPS P ⟨w, [b], fn.ntmps⟩ c ⟨argTm 0 (.o (.s fn.ntmps 0 n cap) :: vsv vs), [(fn.ntmps, .sym (xs ++ junk) t)], re⟩ (retQ T fn (fun l st => l = [.o (.v r)] ∧ lk fn.ntmps st.me = some (.sym (ys ++ junk) t)))) :
   FnW P f vs re t n xs ys r := by
 refine ⟨enters_mk hf hnm (by rw [hb]; rfl), fun w b cap junk hw hcap hfa hdis => ?_⟩
 have E0 : Env := ⟨fun _ => none, fun _ => (0, 0)⟩
 have hlen : ∀ l : List Value, (vsv l).length = l.length := fun l => by induction l with | nil => rfl | cons x r ih => simp [vsv, ih]
 have hβ : (E0.setO fn.ntmps (some b) (0, 0)).β fn.ntmps = some b := by simp [Env.setO]
 have hlk : ∀ {k m}, lk k [(fn.ntmps, ME.sym (xs ++ junk) t)] = some m → k = fn.ntmps ∧ m = .sym (xs ++ junk) t := by
   intro k m h
   rw [lk_cons] at h
   split at h
   · rename_i e; cases h; exact ⟨e, rfl⟩
   · cases h
 have hmem : MemOk ⟨w, [b], fn.ntmps⟩ (E0.setO fn.ntmps (some b) (0, 0)) [(fn.ntmps, .sym (xs ++ junk) t)] re w := by
   refine ⟨fun k m hk => ?_, fun k m c' hk hc => ?_, fun k k' m m' c' hk hk' _ _ => ?_, fun R hR => ⟨(hok R hR).1, hfa R hR, fun c' hc => ⟨(hok R hR).2 w (hfa R hR) c' hc, fun k m hk hkc => ?_⟩⟩, Ext.refl _ _, fun j c' m hX hj => ?_⟩
   · obtain ⟨rfl, rfl⟩ := hlk hk
     exact ⟨b, hβ, hw⟩
   · obtain ⟨rfl, rfl⟩ := hlk hk
     rw [hβ] at hc; cases hc
     exact ⟨.inr (List.mem_singleton.2 rfl), (Array.getElem?_eq_some_iff.1 hw).1⟩
   · rw [(hlk hk).1, (hlk hk').1]
   · obtain ⟨rfl, rfl⟩ := hlk hk
     rw [hβ] at hkc; cases hkc
     exact hdis R hR hc
   · have := (hlk hj).1
     have hj0 : j = 0 := by simp only at this; omega
     subst hj0
     simp at hX
     subst hX
     exact hβ
 have := calls_of_wps (T := T) hT hmix (E := E0.setO fn.ntmps (some b) (0, 0)) (args := .o (.s fn.ntmps 0 n cap) :: vsv vs) hf hb (by rw [List.length_cons, hlen]; exact hn) hmem (hs w b cap junk hcap hfa)
   (R := fun e w' => e = .returned r ∧ w'.heap[b]? = some (.cells (ys ++ junk).toArray t (0, 0)) ∧ w.grownBy w' (some b) ∧ w.drawn ≤ w'.drawn) (fun l st E' w' hp hm => by
     obtain ⟨rfl, hk⟩ := hp
     have h1 := hm.rig 0 b _ rfl hk
     obtain ⟨b', h2, h3⟩ := hm.ent _ _ hk
     rw [show fn.ntmps + 0 = fn.ntmps from rfl] at h1
     rw [h1] at h2; cases h2
     exact ⟨rfl, h3, ⟨hm.ext.os, hm.ext.tape, hm.ext.output, hm.ext.size, fun k hk' hne => hm.ext.block k hk' (fun hx => hne (by rw [List.mem_singleton.1 hx]))⟩, hm.ext.drawn⟩)
 rw [List.map_cons, vsv_real] at this
 have hreal : (SV.o (.s fn.ntmps 0 n cap)).real (E0.setO fn.ntmps (some b) (0, 0)) = .slice (some ⟨b, 0, none⟩) n cap := by simp [SV.real, AV.real, hβ]
 rw [hreal] at this
 exact this

theorem FnW.of (hT : TTgood P T) (hmix : P.follows .mixedOrders = true) {f : FuncId} {fn : Func} {c : Code} {vs : List Value} {re : List Res} {t n : Nat} {xs ys : List Value} {r : Value}
   (hf : P.funcs[f]? = some fn) (hb : fn.body = some c) (hnm : (fn.name == "runtime.NumGoroutine") = false) (hn : vs.length + 1 ≤ fn.ntmps) (hok : ∀ R ∈ re, R.ok)
   (hs : ∀ w b cap (junk : List Value), n ≤ cap → facts re w → sexec P T ⟨w, [b], fn.ntmps⟩ c ⟨argTm 0 (.o (.s fn.ntmps 0 n cap) :: vsv vs), [(fn.ntmps, .sym (xs ++ junk) t)], re⟩ (retQ T fn (fun l st => l = [.o (.v r)] ∧ lk fn.ntmps st.me = some (.sym (ys ++ junk) t)))) :
   FnW P f vs re t n xs ys r :=
 FnW.ofS hT hmix hf hb hnm hn hok (fun w b cap junk hc hw => WPS.of hT hmix (hs w b cap junk hc hw))

theorem CallVC.w {g : FuncId} {args : List SV} {t es n k : Nat} {xs ys : List Value} {r : Value} {K : SV → SS → Prop}
   (hk : lk k st.me = some (.own t es n xs)) (hn : 0 < n) (hE : Enters P g)
   (h : ∀ E w, MemOk C E st.me st.re w → ∃ vs re, args.map (SV.real E) = (SV.o (.w k)).real E :: vs ∧ FnW P g vs re t n xs ys r ∧ facts re w ∧ ∀ R ∈ re, ∀ b ∈ R.bs, E.β k ≠ some b)
   (hlen : ys.length = xs.length) (hK : K (.o (.v r)) { st with me := setL k (.own t es n ys) st.me }) : CallVC P C g args st K := by
 refine ⟨hE, fun E w hm => ?_⟩
 obtain ⟨vs, re, hargs, hfn, hfa, hdis⟩ := h E w hm
 have hent := hm.ent _ _ hk
 obtain ⟨hl, hω, ⟨_, _, h0⟩ | ⟨b, cur, hβ, hheap, h4, h5, h6, htake⟩⟩ := own_cases hent
 · omega
 have hreal : (SV.o (.w k)).real E = .slice (some ⟨b, 0, none⟩) n (E.ω k).2 := by simp [SV.real, AV.real, hβ, hω]
 rw [hargs, hreal]
 have hcur : cur.toList = xs ++ cur.toList.drop (n * es) := by rw [← htake, List.take_append_drop]
 have hheap' : w.heap[b]? = some (.cells (xs ++ cur.toList.drop (n * es)).toArray t (0, 0)) := by rw [hheap, ← hcur]
 refine (hfn.calls w b _ _ hheap' h4 hfa (fun R hR hb => hdis R hR b hb hβ)).mono ?_
 rintro e w' ⟨rfl, hnew, hg, hdr⟩
 have hoth : ∀ c, c < w.heap.size → c ≠ b → w'.heap[c]? = w.heap[c]? := fun c hc hcb => hg.block c hc (fun e => hcb (Option.some.inj e))
 have hbsz : b < w.heap.size := (hm.ge _ _ _ hk hβ).2
 refine ⟨E, { st with me := setL k (.own t es n ys) st.me }, .o (.v r), rfl, ?_, fun c hc => ?_, fun i sv hi => ⟨sv, hi, rfl⟩, hK⟩
 · have hsel : ∀ {j m}, lk j (setL k (.own t es n ys) st.me) = some m → (j = k ∧ m = .own t es n ys) ∨ (j ≠ k ∧ lk j st.me = some m) := by
     intro j m hj
     rw [lk_setL] at hj
     split at hj
     · rename_i e; rw [hk] at hj; cases hj; exact .inl ⟨e, rfl⟩
     · rename_i e; exact .inr ⟨e, hj⟩
   refine ⟨fun j m hj => ?_, fun j m c hj hc => ?_, fun j j' m m' c hj hj' hc hc' => ?_, fun R hR => ?_, ?_, fun j c m hX hj => ?_⟩
   · rcases hsel hj with ⟨rfl, rfl⟩ | ⟨hne, hj⟩
     · show World.ownsRow _ 0 t es ((SV.o (.w j)).real E) n ys
       rw [hreal]
       have hjl : (cur.toList.drop (n * es)).length = cur.size - n * es := by simp
       have hle : n * es ≤ cur.size := by rw [h6]; exact Nat.mul_le_mul_right _ h4
       refine ⟨by rw [hlen]; exact hl, .inr ⟨b, (E.ω j).2, _, rfl, Nat.zero_le _, hnew, h4, h5, ?_, ?_⟩⟩
       · rw [List.size_toArray, List.length_append, hlen, hl, hjl]; omega
       · show (ys ++ cur.toList.drop (n * es)).take (n * es) = ys
         rw [← hl, ← hlen]; exact List.take_left
     · exact (hm.ent j m hj).of_block (fun c hc => hoth c (hm.ge _ _ _ hj hc).2 (fun e => hne (hm.inj _ _ _ _ _ hj hk hc (by rw [e]; exact hβ))))
   · have hsz := hg.size
     rcases hsel hj with ⟨rfl, rfl⟩ | ⟨hne, hj⟩
     · have := hm.ge _ _ _ hk hc; exact ⟨this.1, by omega⟩
     · have := hm.ge _ _ _ hj hc; exact ⟨this.1, by omega⟩
   · have h1 : ∃ m, lk j st.me = some m := by rcases hsel hj with ⟨rfl, _⟩ | ⟨_, hj⟩; exact ⟨_, hk⟩; exact ⟨_, hj⟩
     have h2 : ∃ m, lk j' st.me = some m := by rcases hsel hj' with ⟨rfl, _⟩ | ⟨_, hj⟩; exact ⟨_, hk⟩; exact ⟨_, hj⟩
     obtain ⟨_, h1⟩ := h1
     obtain ⟨_, h2⟩ := h2
     exact hm.inj _ _ _ _ _ h1 h2 hc hc'
   · obtain ⟨r1, r2, r3⟩ := hm.res R hR
     have hne : ∀ c ∈ R.bs, w'.heap[c]? = w.heap[c]? := fun c hc => hoth c (r3 c hc).1.lt (fun e => (r3 c hc).2 k _ hk (by rw [e]; exact hβ))
     refine ⟨r1, r1 _ _ r2 hne, fun c hc => ⟨(r3 c hc).1.keep (hne c hc), fun j m hj hjc => ?_⟩⟩
     rcases hsel hj with ⟨rfl, rfl⟩ | ⟨_, hj⟩
     · exact (r3 c hc).2 _ _ hk hjc
     · exact (r3 c hc).2 _ _ hj hjc
   · have hx := hm.ext
     refine ⟨hg.os.trans hx.os, hg.tape.trans hx.tape, hg.output.trans hx.output, Nat.le_trans hx.size hg.size, fun c hc hnx => ?_, Nat.le_trans hx.drawn hdr⟩
     refine (hoth c (Nat.lt_of_lt_of_le hc hx.size) (fun e => ?_)).trans (hx.block c hc hnx)
     subst e
     rcases (hm.ge _ _ _ hk hβ).1 with h7 | h7
     · omega
     · exact hnx h7
   · rcases hsel hj with ⟨e, rfl⟩ | ⟨_, hj⟩
     · have := hm.rig j c _ hX (by rw [e]; exact hk); exact this
     · exact hm.rig j c m hX hj
 · refine (hoth c (Array.getElem?_eq_some_iff.1 hc).1 (fun e => ?_)).trans hc
   subst e
   rw [hheap] at hc; cases hc

end
end Go.Sx
end
section
/- Long division: one digit of the quotient (plain numbers). -/
namespace Go.Sx

theorem guess_init {B P v1 v2 vl top u2 wl v W : Nat} (hv1 : 0 < v1) (hv : v = (v1 * B + v2) * P + vl) (hW : W = (top * B + u2) * P + wl) (hu2 : u2 < B) (hwl : wl < P) (hvpos : 0 < v) : W / v ≤ top / v1 := by
 rw [Nat.le_div_iff_mul_le hv1]
 have h1 : W / v * v ≤ W := Nat.div_mul_le_self W v
 generalize W / v = q at h1 ⊢
 have h2 : q * v1 * (B * P) ≤ q * v := by
   rw [hv, Nat.mul_assoc]
   apply Nat.mul_le_mul_left
   rw [← Nat.mul_assoc, Nat.add_mul]; omega
 have h3 : W < (top + 1) * (B * P) := by
   rw [hW]
   have : (top * B + u2 + 1) * P ≤ ((top + 1) * B) * P := Nat.mul_le_mul_right _ (by rw [Nat.add_mul]; omega)
   rw [Nat.add_mul _ 1, Nat.one_mul, Nat.mul_assoc (top + 1)] at this
   omega
 have h4 : q * v1 * (B * P) < (top + 1) * (B * P) := by omega
 have := Nat.lt_of_mul_lt_mul_right h4
 omega
theorem guess_dec {B P v1 v2 vl top u2 wl v W g r : Nat} (hv : v = (v1 * B + v2) * P + vl) (hW : W = (top * B + u2) * P + wl) (hwl : wl < P) (hg : g * v1 + r = top) (hgt : r * B + u2 < g * v2) (hvpos : 0 < v) : W / v < g := by
 rw [Nat.div_lt_iff_lt_mul hvpos]
 have h1 : top * B + u2 + 1 ≤ g * (v1 * B + v2) := by
   rw [← hg, Nat.add_mul, Nat.mul_add, Nat.mul_assoc]; omega
 have h2 : (top * B + u2 + 1) * P ≤ g * (v1 * B + v2) * P := Nat.mul_le_mul_right _ h1
 rw [Nat.add_mul _ 1, Nat.one_mul] at h2
 have h3 : g * (v1 * B + v2) * P ≤ g * v := by
   rw [hv, Nat.mul_assoc]; exact Nat.mul_le_mul_left _ (by omega)
 omega
theorem guess_end {B P v1 v2 vl top u2 wl v W g r : Nat} (hB : 0 < B) (hv1 : 0 < v1) (hv : v = (v1 * B + v2) * P + vl) (hvl : vl < P) (hW : W = (top * B + u2) * P + wl) (hg : g * v1 + r = top) (hle : g * v2 ≤ r * B + u2) (hgB : g < B) (hvpos : 0 < v) : g ≤ W / v + 1 := by
 rcases Nat.eq_zero_or_pos g with rfl | hgp
 · exact Nat.zero_le _
 · obtain ⟨m, rfl⟩ : ∃ m, g = m + 1 := ⟨g - 1, by omega⟩
   suffices h : m ≤ W / v from Nat.succ_le_succ h
   rw [Nat.le_div_iff_mul_le hvpos]
   have h1 : (m + 1) * (v1 * B + v2) ≤ top * B + u2 := by
     rw [← hg, Nat.mul_add, Nat.add_mul ((m + 1) * v1) r, Nat.mul_assoc]; omega
   have h2 : (m + 1) * (v1 * B + v2) * P ≤ W := by
     rw [hW]; have := Nat.mul_le_mul_right P h1; omega
   have h3 : v ≤ (v1 * B + v2 + 1) * P := by rw [hv, Nat.add_mul _ 1, Nat.one_mul]; omega
   have h4 : m * v ≤ m * (v1 * B + v2 + 1) * P := by rw [Nat.mul_assoc]; exact Nat.mul_le_mul_left _ h3
   have h5 : m ≤ v1 * B + v2 := by
     have : 1 * B ≤ v1 * B := Nat.mul_le_mul_right _ hv1
     omega
   have h6 : m * (v1 * B + v2 + 1) ≤ (m + 1) * (v1 * B + v2) := by rw [Nat.mul_add, Nat.add_mul]; omega
   exact Nat.le_trans h4 (Nat.le_trans (Nat.mul_le_mul_right _ h6) h2)
theorem digit_fit {W v g : Nat} (h1 : W / v ≤ g) (h2 : g ≤ W / v + 1) (hv : 0 < v) : (g * v ≤ W → g = W / v) ∧ (W < g * v → g = W / v + 1) := by
 constructor
 · intro h
   have := (Nat.le_div_iff_mul_le hv).2 h
   omega
 · intro h
   have := (Nat.div_lt_iff_lt_mul hv).2 h
   omega
end Go.Sx
end
section
/- Rational numbers and their layout. -/
namespace Go.Sx

structure Raw where
 neg : Bool
 num : List UInt8
 den : List UInt8
deriving DecidableEq
def sg (neg : Bool) (m : Nat) : Int := if neg then -(m : Int) else m
def dnm (m : Nat) : Nat := if m = 0 then 1 else m
def Raw.n (r : Raw) : Int := sg r.neg (nat r.num)
def Raw.d (r : Raw) : Nat := dnm (nat r.den)
theorem sg_natAbs (b : Bool) (m : Nat) : (sg b m).natAbs = m := by unfold sg; split <;> omega
theorem dnm_pos (m : Nat) : 0 < dnm m := by unfold dnm; split <;> omega
def Raw.v (r : Raw) : Rat := mkRat r.n r.d
theorem Raw.d_pos (r : Raw) : 0 < r.d := dnm_pos _
theorem Raw.d_ne (r : Raw) : r.d ≠ 0 := Nat.ne_of_gt r.d_pos
def Q (x : Rat) : Raw := ⟨decide (x < 0), bytes x.num.natAbs, if x.den = 1 then [] else bytes x.den⟩
theorem num_neg_iff {x : Rat} : x.num < 0 ↔ x < 0 := by
 have := Rat.num_nonneg (q := x)
 rw [← Rat.not_le, ← this]; omega
theorem Q_n (x : Rat) : (Q x).n = x.num := by
 show sg (decide (x < 0)) (nat (bytes x.num.natAbs)) = x.num
 have := num_neg_iff (x := x)
 rw [nat_bytes, sg]
 by_cases h : x < 0
 · rw [decide_eq_true h, if_pos rfl]; have := this.2 h; omega
 · rw [decide_eq_false h, if_neg (by decide)]; have : ¬ x.num < 0 := fun h' => h (this.1 h'); omega
theorem Q_d (x : Rat) : (Q x).d = x.den := by
 have := x.den_nz
 show dnm (nat (if x.den = 1 then [] else bytes x.den)) = x.den
 by_cases h : x.den = 1
 · rw [if_pos h, nat_nil, h]; rfl
 · rw [if_neg h, nat_bytes, dnm, if_neg this]
@[simp] theorem Q_v (x : Rat) : (Q x).v = x := by rw [Raw.v, Q_n, Q_d, Rat.mkRat_self]
theorem Q_inj {x y : Rat} : Q x = Q y ↔ x = y := ⟨fun h => by rw [← Q_v x, h, Q_v], fun h => by rw [h]⟩
theorem Q_zero : Q 0 = ⟨false, [], []⟩ := by simp [Q, bytes_zero, show ¬ ((0 : Rat) < 0) from Rat.lt_irrefl]
theorem Raw.zero_v : (⟨false, [], []⟩ : Raw).v = 0 := by rw [← Q_zero, Q_v]
def Raw.ok (r : Raw) : Prop := r = Q r.v
instance (r : Raw) : Decidable r.ok := inferInstanceAs (Decidable (r = Q r.v))
theorem Q_ok (x : Rat) : (Q x).ok := by rw [Raw.ok, Q_v]
theorem ok_eq {r s : Raw} (hr : r.ok) (hs : s.ok) : r = s ↔ r.v = s.v := ⟨fun h => by rw [h], fun h => by rw [Raw.ok] at hr hs; rw [hr, hs, h]⟩

def Sz (k : Nat) (x : Rat) : Prop := x.num.natAbs < 256 ^ k ∧ x.den < 256 ^ k
theorem Sz.le {k m : Nat} {x : Rat} (h : Sz k x) (hm : k ≤ m) : Sz m x :=
 ⟨Nat.lt_of_lt_of_le h.1 (Nat.pow_le_pow_right (by decide) hm), Nat.lt_of_lt_of_le h.2 (Nat.pow_le_pow_right (by decide) hm)⟩
theorem Sz.mk' {k : Nat} {n : Int} {d : Nat} (h1 : n.natAbs < 256 ^ k) (h2 : d < 256 ^ k) (hd : d ≠ 0) : Sz k (mkRat n d) := by
 refine ⟨?_, ?_⟩
 · rw [Rat.num_mkRat, if_neg hd]
   exact Nat.lt_of_le_of_lt (Int.natAbs_ediv_le_natAbs _ _) h1
 · rw [Rat.den_mkRat, if_neg hd]
   exact Nat.lt_of_le_of_lt (Nat.div_le_self _ _) h2
theorem nat_bound {l : List UInt8} {k : Nat} (h : l.length ≤ k) : nat l < 256 ^ k := Nat.lt_of_lt_of_le (nat_lt l) (Nat.pow_le_pow_right (by decide) h)
theorem Raw.n_bound {r : Raw} {k : Nat} (h : r.num.length ≤ k) : r.n.natAbs < 256 ^ k := by
 rw [Raw.n, sg_natAbs]; exact nat_bound h
theorem Raw.d_bound {r : Raw} {k : Nat} (hk : 0 < k) (h : r.den.length ≤ k) : r.d < 256 ^ k := by
 unfold Raw.d dnm; split
 · exact Nat.one_lt_pow (by omega) (by decide)
 · exact nat_bound h
theorem Raw.sz {r : Raw} {k : Nat} (hk : 0 < k) (h1 : r.num.length ≤ k) (h2 : r.den.length ≤ k) : Sz k r.v := Sz.mk' (Raw.n_bound h1) (Raw.d_bound hk h2) r.d_ne
theorem bytes_len {n k : Nat} (h : n < 256 ^ k) : (bytes n).length ≤ k := by rw [bytes_length]; exact digs_length_le (by decide) h
def Raw.sm (k : Nat) (r : Raw) : Prop := r.num.length ≤ k ∧ r.den.length ≤ k
theorem Sz.q {k : Nat} {x : Rat} (h : Sz k x) : (Q x).sm k := by
 refine ⟨bytes_len h.1, ?_⟩
 simp only [Q]
 split
 · exact Nat.zero_le _
 · exact bytes_len h.2
theorem Sz.neg {k : Nat} {x : Rat} (h : Sz k x) : Sz k (-x) := by
 refine ⟨?_, h.2⟩
 rw [Rat.neg_num, Int.natAbs_neg]; exact h.1
theorem pow_add_lt {a b k m : Nat} (ha : a < 256 ^ k) (hb : b < 256 ^ m) : a * b < 256 ^ (k + m) := by
 rw [Nat.pow_add]
 exact Nat.mul_lt_mul'' ha hb
theorem Sz.mul {k m : Nat} {x y : Rat} (h : Sz k x) (h' : Sz m y) : Sz (k + m) (x * y) := by
 rw [Rat.mul_def']
 refine Sz.mk' ?_ (pow_add_lt h.2 h'.2) (Nat.mul_ne_zero x.den_nz y.den_nz)
 rw [Int.natAbs_mul]; exact pow_add_lt h.1 h'.1
theorem Sz.add {k m : Nat} {x y : Rat} (h : Sz k x) (h' : Sz m y) : Sz (k + m + 1) (x + y) := by
 rw [Rat.add_def']
 refine Sz.mk' ?_ (Nat.lt_of_lt_of_le (pow_add_lt h.2 h'.2) (Nat.pow_le_pow_right (by decide) (by omega))) (Nat.mul_ne_zero x.den_nz y.den_nz)
 have h1 := pow_add_lt h.1 h'.2
 have h2 := pow_add_lt h'.1 h.2
 rw [Nat.add_comm m k] at h2
 have h3 : (x.num * (y.den : Int) + y.num * (x.den : Int)).natAbs ≤ x.num.natAbs * y.den + y.num.natAbs * x.den := by
   have := Int.natAbs_add_le (x.num * (y.den : Int)) (y.num * (x.den : Int))
   rw [Int.natAbs_mul, Int.natAbs_mul, Int.natAbs_natCast, Int.natAbs_natCast] at this
   exact this
 rw [Nat.pow_succ]
 omega
theorem Sz.sub {k m : Nat} {x y : Rat} (h : Sz k x) (h' : Sz m y) : Sz (k + m + 1) (x - y) := by
 rw [Rat.sub_eq_add_neg]; exact h.add h'.neg
theorem Sz.inv {k : Nat} {x : Rat} (h : Sz k x) : Sz (k + 1) x⁻¹ := by
 refine ⟨?_, ?_⟩
 · rw [Rat.num_inv, Int.natAbs_mul, Int.natAbs_natCast]
   have : x.num.sign.natAbs ≤ 1 := by rcases Int.lt_trichotomy x.num 0 with h | h | h <;> simp [Int.sign_eq_neg_one_of_neg, Int.sign_eq_one_of_pos, h]
   have h2 := Nat.mul_le_mul_right x.den this
   rw [Nat.pow_succ]; have := h.2; omega
 · rw [Rat.den_inv]
   split
   · exact Nat.one_lt_pow (by omega) (by decide)
   · rw [Nat.pow_succ]; have := h.1; omega
theorem Sz.div {k m : Nat} {x y : Rat} (h : Sz k x) (h' : Sz m y) : Sz (k + (m + 1)) (x / y) := by
 rw [Rat.div_def]; exact h.mul h'.inv
end Go.Sx
end
section
/- A symbolic executor over loaded Go code: calls that yield two rows, the second of which may be the row that was handed over. -/
namespace Go.Sx
open Go Go.RowKit

section
variable {P : Program} {T : TT} {C : Cx} {E : Env} {st st' : SS}
theorem own_lower {w : World} {B t es n : Nat} {v : Value} {xs : List Value} (h : w.ownsRow B t es v n xs) : w.ownsRow 0 t es v n xs ∧ ∀ b, v.ownBlock = some b → B ≤ b ∧ b < w.heap.size := by
 obtain ⟨h1, h2 | ⟨g, cap, cur, rfl, h3, h4⟩⟩ := h
 · exact ⟨⟨h1, .inl h2⟩, fun b hb => by rw [h2.1] at hb; cases hb⟩
 · exact ⟨⟨h1, .inr ⟨g, cap, cur, rfl, Nat.zero_le _, h4⟩⟩, fun b hb => by cases hb; exact ⟨h3, (Array.getElem?_eq_some_iff.1 h4.1).1⟩⟩
theorem ownBlock_w {E : Env} {k b : Nat} : Value.ownBlock ((SV.o (.w k)).real E) = some b ↔ E.β k = some b := by
 show Value.ownBlock (.slice ((E.β k).map fun b => ⟨b, 0, none⟩) (E.ω k).1 (E.ω k).2) = some b ↔ _
 cases E.β k with
 | none => simp [Value.ownBlock]
 | some c => simp [Value.ownBlock]
theorem CallVC.d (z1 z2 : Nat) {g : FuncId} {t es n0 nj n m k j : Nat} {x0 xj xs ys : List Value} {K : SV → SS → Prop}
   (h : ∀ A c A' c', n0 ≤ c → nj ≤ c' → FnM P g [.slice A n0 c, .slice A' nj c'] (Sx.facts [SlRes A x0, SlRes A' xj]) (retsD (.slice A n0 c) x0 n0 t es n xs m ys))
   (hk : lk k st.me = some (.own t es n0 x0)) (hj : lk j st.me = some (.own t es nj xj)) (hz1 : st.has z1 = false) (hz2 : st.has z2 = false) (h12 : Nat.beq z1 z2 = false) (hz1N : dstOk C.N (some z1) = true) (hz2N : dstOk C.N (some z2) = true)
   (hK : K (.o (.tu [.w z1, .w z2])) { st with me := (z2, .own t es m ys) :: rmL k ((z1, .own t es n xs) :: st.me) }) : CallVC P C g [.o (.w k), .o (.w j)] st K := by
 refine ⟨(h none n0 none nj (Nat.le_refl _) (Nat.le_refl _)).enters, fun E w hm => ?_⟩
 obtain ⟨A, c, hr, hc, hs⟩ := RdA.own hk E w (fun k mm _ hk => hm.ent k mm hk) (fun R hR => (hm.res R hR).2.1)
 obtain ⟨A', c', hr', hc', hs'⟩ := RdA.own hj E w (fun k mm _ hk => hm.ent k mm hk) (fun R hR => (hm.res R hR).2.1)
 rw [show [SV.o (.w k), SV.o (.w j)].map (SV.real E) = [.slice A n0 c, .slice A' nj c'] by rw [List.map_cons, List.map_cons, List.map_nil, hr, hr']]
 refine ((h A c A' c' hc hc').calls w (fun R hR => ?_)).mono ?_
 · rcases List.mem_cons.1 hR with rfl | hR
   · exact hs
   · rw [List.mem_singleton.1 hR]; exact hs'
 rintro e w' ⟨u, v, rfl, hu, hv, hb⟩
 have hkz1 : k ≠ z1 := (SS.has_me hz1 hk).1
 have hm1 := MemOk.own (st := st) hm hz1N hz1 hb hu
 obtain ⟨hbut1, hreal1, hβ1⟩ := own_real (E := E) (d := z1) hu
 obtain ⟨hu0, hub⟩ := own_lower hu
 have hfree : (rmL k ((z1, ME.own t es n xs) :: st.me)).any (fun e => Nat.beq e.1 z2 || e.2.has z2) = false := by
   refine has_rm (st := { tm := [], me := (z1, .own t es n xs) :: st.me, re := st.re }) ?_ k
   have h2 := hz2
   unfold SS.has at h2 ⊢
   rw [Bool.or_eq_false_iff] at h2
   rw [List.any_nil, Bool.false_or, List.any_cons, h2.2, Bool.or_false]
   show (Nat.beq z1 z2 || false) = false
   rw [h12]; rfl
 have hβk : (sliceEnv E z1 u).β k = E.β k := (hbut1 _ hkz1).1
 have hcase : w'.ownsRow 0 t es v m ys ∧ (∀ b, v.ownBlock = some b → (C.W0.heap.size ≤ b ∨ b ∈ C.X) ∧ b < w'.heap.size) ∧
     ∀ b, v.ownBlock = some b → (∀ i mm, lk i (rmL k ((z1, ME.own t es n xs) :: st.me)) = some mm → (sliceEnv E z1 u).β i ≠ some b) ∧ ∀ R ∈ st.re, b ∉ R.bs := by
   have hsel : ∀ {i mm}, lk i (rmL k ((z1, ME.own t es n xs) :: st.me)) = some mm → i ≠ k ∧ (i = z1 ∨ (i ≠ z1 ∧ lk i st.me = some mm)) := by
     intro i mm hi
     rw [lk_rmL] at hi
     split at hi
     · cases hi
     · rename_i e
       rw [lk_cons] at hi
       split at hi
       · rename_i e'; exact ⟨e, .inl e'⟩
       · rename_i e'; exact ⟨e, .inr ⟨e', hi⟩⟩
   rcases hv with ⟨hv, hdis⟩ | ⟨rfl, rfl, rfl⟩
   · obtain ⟨hv0, hvb⟩ := own_lower hv
     refine ⟨hv0, fun b hb' => ⟨.inl (Nat.le_trans hm.ext.size (hvb b hb').1), (hvb b hb').2⟩, fun b hb' => ⟨fun i mm hi hib => ?_, fun R hR hbR => ?_⟩⟩
     · obtain ⟨_, rfl | ⟨e, hi⟩⟩ := hsel hi
       · exact hdis b ((hβ1 b).1 hib) hb'
       · rw [(hbut1 _ e).1] at hib
         have := (hm.ge _ _ _ hi hib).2
         have := (hvb b hb').1
         omega
     · have := ((hm.res R hR).2.2 b hbR).1.lt
       have := (hvb b hb').1
       omega
   · have hmw := (hm.world (st := st) hb)
     have hent := hmw.ent _ _ hk
     have hown : w'.ownsRow 0 t es ((SV.o (.w k)).real E) m ys := hent
     rw [hr] at hown
     refine ⟨hown, fun b hb' => ?_, fun b hb' => ?_⟩
     · rw [← hr, ownBlock_w] at hb'
       exact hmw.ge _ _ _ hk hb'
     · rw [← hr, ownBlock_w] at hb'
       refine ⟨fun i mm hi hib => ?_, fun R hR hbR => ((hm.res R hR).2.2 b hbR).2 k _ hk hb'⟩
       obtain ⟨hik, rfl | ⟨e, hi⟩⟩ := hsel hi
       · have := (hub b ((hβ1 b).1 hib)).1
         have := (hm.ge _ _ _ hk hb').2
         omega
       · rw [(hbut1 _ e).1] at hib
         exact hik (hm.inj _ _ _ _ _ hi hk hib hb')
 have hmo := (hm1.rm k).own' (d := z2) hfree hz2N hcase.1 hcase.2.1 hcase.2.2
 obtain ⟨hbut2, hreal2, _⟩ := own_real (E := sliceEnv E z1 u) (d := z2) hcase.1
 refine ⟨sliceEnv (sliceEnv E z1 u) z2 v, { st with me := (z2, .own t es m ys) :: rmL k ((z1, .own t es n xs) :: st.me) }, .o (.tu [.w z1, .w z2]), ?_, hmo, KD.below hb, fun i sv hi => ⟨sv, hi, ?_⟩, hK⟩
 · have e1 : TP.real (sliceEnv (sliceEnv E z1 u) z2 v) (.w z2) = v := hreal2
   have e2 : TP.real (sliceEnv (sliceEnv E z1 u) z2 v) (.w z1) = u := by
     have : (SV.o (.w z1)).real (sliceEnv (sliceEnv E z1 u) z2 v) = (SV.o (.w z1)).real (sliceEnv E z1 u) := SV.real_but hbut2 (by
       show Nat.beq z1 z2 = false; exact h12)
     exact (show TP.real (sliceEnv (sliceEnv E z1 u) z2 v) (.w z1) = TP.real (sliceEnv E z1 u) (.w z1) from this).trans hreal1
   show _ = Ending.returned (Value.tuple #[TP.real _ (.w z1), TP.real _ (.w z2)])
   rw [e1, e2]
 · rw [SV.real_but hbut2 (SS.has_tm hz2 hi), SV.real_but hbut1 (SS.has_tm hz1 hi)]

theorem CallVC.w1 {g : FuncId} {t es n t' es' nj k j : Nat} {xs ys xj : List Value} {r : Value} {tl : List Value} {K : SV → SS → Prop} (hkj : k ≠ j) (hk : lk k st.me = some (.own t es n xs)) (hj : lk j st.me = some (.own t' es' nj xj)) (hn : 0 < n)
   (h : ∀ A c, nj ≤ c → FnW P g (.slice A nj c :: tl) [SlRes A xj] t n xs ys r) (hlen : ys.length = xs.length) (hK : K (.o (.v r)) { st with me := setL k (.own t es n ys) st.me }) : CallVC P C g (.o (.w k) :: .o (.w j) :: vsv tl) st K := by
 refine CallVC.w hk hn (h none nj (Nat.le_refl _)).enters (fun E w hm => ?_) hlen hK
 obtain ⟨A, c, hr, hc, hs⟩ := RdA.own hj E w (fun k mm _ hk => hm.ent k mm hk) (fun R hR => (hm.res R hR).2.1)
 refine ⟨.slice A nj c :: tl, [SlRes A xj], by rw [List.map_cons, List.map_cons, hr, vsv_real], h A c hc, fun R hR => by rw [List.mem_singleton.1 hR]; exact hs, fun R hR b hb hβ => ?_⟩
 rw [List.mem_singleton.1 hR] at hb
 have hbj : E.β j = some b := by
   have hA : A = (E.β j).map fun b => ⟨b, 0, none⟩ := by
     have : Value.slice ((E.β j).map fun b => ⟨b, 0, none⟩) (E.ω j).1 (E.ω j).2 = .slice A nj c := hr
     injection this with h1 _ _
     exact h1.symm
   cases hβj : E.β j with
   | none => rw [hA, hβj] at hb; cases xj <;> simp [SlRes, SlB] at hb
   | some b' =>
     rw [hA, hβj] at hb
     have hb2 : b ∈ SlB (some ⟨b', 0, none⟩) xj := hb
     cases xj with
     | nil => simp [SlB] at hb2
     | cons x r => simp [SlB] at hb2; rw [hb2]
 exact hkj (hm.inj _ _ _ _ _ hk hj hβ hbj)

theorem WPS.mono {c : Code} {Q Q' : Exit → SS → Prop} (h : WPS P C c st Q) (hq : ∀ e s, Q e s → Q' e s) : WPS P C c st Q' :=
 ⟨fun a w hr => wpIn_mono (h.wp a w hr) (fun e a' w' ⟨s, h1, h2⟩ => ⟨s, h1, hq _ _ h2⟩)⟩
theorem WPS.seq {x y : Code} {Q : Exit → SS → Prop} (h : WPS P C x st (fun e s => match e with
   | .normal => WPS P C y s Q
   | e => Q e s)) : WPS P C (.seq x y) st Q := ⟨fun a w hr => by
 refine wpIn_seq (wpIn_mono (h.wp a w hr) ?_)
 rintro e a' w' ⟨st', hst, hq⟩
 cases e with
 | normal => exact hq.wp _ _ hst
 | _ => exact ⟨st', hst, hq⟩⟩
theorem WPS.block {id : Nat} {c : Code} {Q : Exit → SS → Prop} (h : WPS P C c st (fun e s => match e with
   | .exit j => bif Nat.beq j id then Q .normal s else Q (.exit j) s
   | e => Q e s)) : WPS P C (.block id c) st Q := ⟨fun a w hr => by
 refine wpIn_block (wpIn_mono (h.wp a w hr) ?_)
 rintro e a' w' ⟨st', hst, hq⟩
 cases e with
 | exit j =>
   simp only [Exit.inBlock]
   by_cases hj : j = id
   · subst hj; rw [if_pos rfl]; simp only [Nat.beq_refl, cond_true] at hq; exact ⟨st', hst, hq⟩
   · rw [if_neg hj]; simp only [beq_false.2 hj, cond_false] at hq; exact ⟨st', hst, hq⟩
 | _ => exact ⟨st', hst, hq⟩⟩
theorem WPS.loop {c : Code} {Q : Exit → SS → Prop} {ι : Type} (I : ι → SS) (J : ι → Prop) (μ : ι → Nat) (i0 : ι) (h0 : J i0) (hi : SLe C st (I i0))
   (hround : ∀ i, J i → WPS P C c (I i) (fun e s => match e with
     | .normal => ∃ j, J j ∧ μ j < μ i ∧ SLe C s (I j)
     | e => Q e s)) : WPS P C (.loop c) st Q := ⟨fun a w h => by
 have key : ∀ (m : Nat) (i : ι) (a : Act) (w : World), J i → μ i = m → SR C (I i) a w → ∀ (b : Frame) (k : List Item) (cs : List Frame), b.roundOf = (FW none).round → (FW none).fn b.fn → (FW none).room (cs.length + 1 + 0) →
     ∃ e a' w', lift C Q e a' w' ∧ ArrivesIn (Machine.fenced P (FW none)) P (lone (b.atR a (.code c :: .inLoop c :: k)) cs w) b k cs e a' w' := by
   intro m
   induction m using Nat.strongRecOn with
   | _ m ih =>
     intro i a w hJ hm hI b k cs hro hb hr
     obtain ⟨e, a₁, w₁, ⟨st', hst, hq⟩, harr⟩ := (hround i hJ).wp a w hI b (.inLoop c :: k) cs hro hb hr
     cases e with
     | normal =>
       obtain ⟨j, hj, hlt, hle⟩ := hq
       obtain ⟨e₂, a₂, w₂, hq₂, harr₂⟩ := ih (μ j) (hm ▸ hlt) j a₁ w₁ hj rfl (hle _ _ hst) b k cs hro hb hr
       exact ⟨e₂, a₂, w₂, hq₂, .of_steps (StepsIn.trans harr (.one (fenced_calm hb hr rfl) stepR_inLoop)) harr₂⟩
     | exit id => exact ⟨_, a₁, w₁, ⟨st', hst, hq⟩, .pass (x := .inLoop c) rfl (fun _ _ => .inl (by simp)) harr⟩
     | goto l => exact ⟨_, a₁, w₁, ⟨st', hst, hq⟩, .pass (x := .inLoop c) rfl (fun _ _ => .inl (by simp)) harr⟩
     | ret => exact ⟨_, a₁, w₁, ⟨st', hst, hq⟩, .pass (x := .inLoop c) rfl (fun _ _ => .inl (by simp)) harr⟩
     | panic ch => exact ⟨_, a₁, w₁, ⟨st', hst, hq⟩, .pass (x := .inLoop c) rfl (fun _ _ => .inl (by simp)) harr⟩
     | outgrown => exact ⟨_, a₁, w₁, ⟨st', hst, hq⟩, .pass (x := .inLoop c) rfl (fun _ _ => .inl (by simp)) harr⟩
 intro b k cs hro hb hr
 obtain ⟨e, a', w', hq, harr⟩ := key _ i0 a w h0 rfl (hi _ _ h) b k cs hro hb hr
 exact ⟨e, a', w', hq, .of_steps (.one (fenced_calm hb hr rfl) stepR_loop) harr⟩⟩
theorem WPS.cutW {x y : Code} {Q : Exit → SS → Prop} {ι : Type} (M : ι → SS) (J : ι → Prop) (h : WPS P C x st (fun e s => match e with
   | .normal => ∃ j, J j ∧ SLe C s (M j)
   | e => Q e s)) (hy : ∀ j, J j → WPS P C y (M j) Q) : WPS P C (.seq x y) st Q := WPS.seq (h.mono (fun e s hs => by
 cases e with
 | normal => obtain ⟨j, hj, hl⟩ := hs; exact (hy j hj).le hl
 | _ => exact hs))
end
end Go.Sx
end
section
/- A symbolic executor over loaded Go code: iterators: what they yield; loops over them. -/
namespace Go.Sx
open Go Go.RowKit

structure Moved (B Z Z' : List Nat) (w w' : World) : Prop where
 os : w'.os = w.os
 tape : w'.tape = w.tape
 output : w'.output = w.output
 size : w.heap.size ≤ w'.heap.size
 block : ∀ k, k < w.heap.size → k ∉ B → k ∉ Z → w'.heap[k]? = w.heap[k]?
 grow : ∀ k ∈ Z', k ∈ Z ∨ w.heap.size ≤ k
 drawn : w.drawn ≤ w'.drawn
abbrev yieldV (l : Nat) : Value := .func (.yield l) #[] #[]
structure Own (B : List Nat) (J : List Nat → World → Prop) : Prop where
 stable : ∀ Z w w', J Z w → (∀ k, k ∈ B ∨ k ∈ Z → w'.heap[k]? = w.heap[k]?) → J Z w'
 kept : ∀ Z w, J Z w → ∀ k, k ∈ B ∨ k ∈ Z → IsC w k
def Rounds (P : Program) (l : Nat) (W : World) (B : List Nat) (xs : List (List Value)) (J : Nat → List Nat → World → Prop) (Jx : List Nat → World → Prop) : Prop :=
 ∀ i Z w, i < xs.length → J i Z w → Ext B W w → (∀ k ∈ Z, W.heap.size ≤ k) → ∀ ro m, YieldAt (FW ro) m P l (xs.getD i []).toArray w fun e w' =>
   (e = .returned (.bool true) ∧ ∃ Z', J (i + 1) Z' w' ∧ Moved B Z Z' w w') ∨ (e = .returned (.bool false) ∧ ∃ Z', Jx Z' w' ∧ Moved B Z Z' w w')
structure SeqC (P : Program) (g : FuncId) (caps : List Value) (re : List Res) (xs : List (List Value)) : Prop where
 enters : Enters P g
 ok : ∀ R ∈ re, R.ok
 calls : ∀ (l : Nat) (W : World) (B : List Nat) (J : Nat → List Nat → World → Prop) (Jx : List Nat → World → Prop),
   facts re W → (∀ R ∈ re, ∀ b ∈ R.bs, b ∉ B) → (∀ b ∈ B, b < W.heap.size) → (∀ i, Own B (J i)) → Own B Jx → Rounds P l W B xs J Jx → J 0 [] W →
   Calls P g (yieldV l :: caps).toArray W fun e w' => (∃ v, e = .returned v) ∧ Ext B W w' ∧ ((∃ Z, J xs.length Z w') ∨ ∃ Z, Jx Z w')

section
variable {P : Program} {T : TT}
def JR (W : World) (B : List Nat) (J : List Nat → World → Prop) (Z : List Nat) : Res := ⟨B ++ Z, fun w => J Z w ∧ ∀ k ∈ Z, W.heap.size ≤ k⟩
theorem JR.ok {W : World} {B : List Nat} {J : List Nat → World → Prop} (h : Own B J) (Z : List Nat) : (JR W B J Z).ok :=
 ⟨fun w w' hj hb => ⟨h.stable Z w w' hj.1 (fun k hk => hb k (List.mem_append.2 hk)), hj.2⟩, fun w hj b hb => h.kept Z w hj.1 b (List.mem_append.1 hb)⟩
theorem YieldVC.next {l N : Nat} {W : World} {B : List Nat} {xs : List (List Value)} {J : Nat → List Nat → World → Prop} {Jx : List Nat → World → Prop} {re : List Res} {st : SS} {K : SV → SS → Prop} {args : List SV} {i : Nat} {Z : List Nat}
   (hr : Rounds P l W B xs J Jx) (hJ : ∀ i, Own B (J i)) (hJx : Own B Jx) (hre : ∀ R ∈ re, R.ok) (hW : facts re W) (hd : ∀ R ∈ re, ∀ b ∈ R.bs, b ∉ B)
   (hi : i < xs.length) (hst : st.re = JR W B (J i) Z :: re) (ha : args = vsv (xs.getD i []))
   (hk1 : ∀ Z', K (.o (.v (.bool true))) { st with re := JR W B (J (i + 1)) Z' :: re }) (hk2 : ∀ Z', K (.o (.v (.bool false))) { st with re := JR W B Jx Z' :: re }) : YieldVC P ⟨W, B, N⟩ l args st K := by
 refine ⟨fun E w hm ro m => ?_⟩
 have hj := hm.res _ (by rw [hst]; exact List.mem_cons_self ..)
 obtain ⟨hj1, hj2⟩ := hj.2.1
 have hnot : ∀ b, b ∈ B ∨ b ∈ Z → ∀ k mm, lk k st.me = some mm → E.β k ≠ some b := fun b hb => (hj.2.2 b (List.mem_append.2 hb)).2
 have hy := hr i Z w hi hj1 hm.ext hj2 ro m
 rw [ha, vsv_real]
 obtain ⟨fn, tmps, assign, body, h1, h2⟩ := hy
 refine ⟨fn, tmps, assign, body, h1, h2.mono ?_⟩
 have key : ∀ (J' : List Nat → World → Prop) (hO : Own B J') (Z' : List Nat) (w' : World), J' Z' w' → Moved B Z Z' w w' → MemOk ⟨W, B, N⟩ E st.me (JR W B J' Z' :: re) w' ∧ KD w w' := by
   intro J' hO Z' w' hj' hmv
   have hblk : ∀ b, b < w.heap.size → (¬ (b ∈ B ∨ b ∈ Z)) → w'.heap[b]? = w.heap[b]? := fun b hb hn => hmv.block b hb (fun h => hn (.inl h)) (fun h => hn (.inr h))
   have hme : ∀ k mm b, lk k st.me = some mm → E.β k = some b → w'.heap[b]? = w.heap[b]? := fun k mm b hk hb => hblk b (hm.ge k mm b hk hb).2 (fun h => hnot b h k mm hk hb)
   refine ⟨⟨fun k mm hk => (hm.ent k mm hk).of_block (fun b hb => hme k mm b hk hb), fun k mm b hk hb => ⟨(hm.ge k mm b hk hb).1, Nat.lt_of_lt_of_le (hm.ge k mm b hk hb).2 hmv.size⟩, hm.inj, fun R hR => ?_, ?_, hm.rig⟩, fun b hb => ?_⟩
   · rcases List.mem_cons.1 hR with rfl | hR
     · have hge : ∀ k ∈ Z', W.heap.size ≤ k := fun k hk => by
         rcases hmv.grow k hk with h | h
         · exact hj2 k h
         · exact Nat.le_trans hm.ext.size h
       refine ⟨(JR.ok hO Z').1, ⟨hj', hge⟩, fun b hb => ⟨hO.kept Z' w' hj' b (List.mem_append.1 hb), fun k mm hk hkb => ?_⟩⟩
       rcases List.mem_append.1 hb with hb | hb
       · exact hnot b (.inl hb) k mm hk hkb
       · rcases hmv.grow b hb with h | h
         · exact hnot b (.inr h) k mm hk hkb
         · have := (hm.ge k mm b hk hkb).2; omega
     · have hRm : R ∈ st.re := by rw [hst]; exact List.mem_cons_of_mem _ hR
       obtain ⟨r1, r2, r3⟩ := hm.res R hRm
       have hne : ∀ b ∈ R.bs, w'.heap[b]? = w.heap[b]? := fun b hb => hblk b (r3 b hb).1.lt (fun h => by
         rcases h with h | h
         · exact hd R hR b hb h
         · have h5 := ((hre R hR).2 W (hW R hR) b hb).lt
           have := hj2 b h
           omega)
       exact ⟨r1, r1 _ _ r2 hne, fun b hb => ⟨(r3 b hb).1.keep (hne b hb), (r3 b hb).2⟩⟩
   · have hx := hm.ext
     refine ⟨hmv.os.trans hx.os, hmv.tape.trans hx.tape, hmv.output.trans hx.output, Nat.le_trans hx.size hmv.size, fun k hk hn => ?_, Nat.le_trans hx.drawn hmv.drawn⟩
     refine (hblk k (Nat.lt_of_lt_of_le hk hx.size) (fun h => ?_)).trans (hx.block k hk hn)
     rcases h with h | h
     · exact hn h
     · have h6 := hj2 k h
       have h7 : k < W.heap.size := hk
       omega
   · refine (hblk b (Array.getElem?_eq_some_iff.1 hb).1 (fun h => ?_)).trans hb
     obtain ⟨o, h3, h4⟩ := (hj.2.2 b (List.mem_append.2 h)).1
     rw [hb] at h3; cases h3; cases h4
 rintro e w' (⟨rfl, Z', hj', hmv⟩ | ⟨rfl, Z', hj', hmv⟩)
 · obtain ⟨a1, a2⟩ := key _ (hJ (i + 1)) Z' w' hj' hmv
   exact ⟨E, { st with re := JR W B (J (i + 1)) Z' :: re }, .o (.v (.bool true)), rfl, a1, a2, fun i sv hi => ⟨sv, hi, rfl⟩, hk1 Z'⟩
 · obtain ⟨a1, a2⟩ := key _ hJx Z' w' hj' hmv
   exact ⟨E, { st with re := JR W B Jx Z' :: re }, .o (.v (.bool false)), rfl, a1, a2, fun i sv hi => ⟨sv, hi, rfl⟩, hk2 Z'⟩
theorem SeqC.of (hT : TTgood P T) (hmix : P.follows .mixedOrders = true) {f : FuncId} {fn : Func} {c : Code} {caps : List Value} {re : List Res} {xs : List (List Value)}
   (hf : P.funcs[f]? = some fn) (hb : fn.body = some c) (hnm : (fn.name == "runtime.NumGoroutine") = false) (hn : caps.length + 1 ≤ fn.ntmps) (hok : ∀ R ∈ re, R.ok)
   (hs : ∀ (l : Nat) (W : World) (B : List Nat) (R : Nat → List Nat → Res) (X : List Nat → Res), facts re W →
     (∀ i Z st K args, i < xs.length → st.re = R i Z :: re → args = vsv (xs.getD i []) → (∀ Z', K (.o (.v (.bool true))) { st with re := R (i + 1) Z' :: re }) → (∀ Z', K (.o (.v (.bool false))) { st with re := X Z' :: re }) → YieldVC P ⟨W, B, fn.ntmps⟩ l args st K) →
     WPS P ⟨W, B, fn.ntmps⟩ c ⟨argTm 0 (vsv (yieldV l :: caps)), [], R 0 [] :: re⟩ (retQ T fn (fun _ st => (∃ Z, R xs.length Z ∈ st.re) ∨ ∃ Z, X Z ∈ st.re))) : SeqC P f caps re xs := by
 refine ⟨enters_mk hf hnm (by rw [hb]; rfl), hok, fun l W B J Jx hW hd hB hJ hJx hr h0 => ?_⟩
 have E0 : Env := ⟨fun _ => none, fun _ => (0, 0)⟩
 have hlen : ∀ l : List Value, (vsv l).length = l.length := fun l => by induction l with | nil => rfl | cons x r ih => simp [vsv, ih]
 have hmem : MemOk ⟨W, B, fn.ntmps⟩ E0 [] (JR W B (J 0) [] :: re) W := by
   refine ⟨fun k m hk => by simp [lk] at hk, fun k m b hk => by simp [lk] at hk, fun k k' m m' b hk => by simp [lk] at hk, fun R hR => ?_, Ext.refl _ _, fun j b m hX hj => by simp [lk] at hj⟩
   rcases List.mem_cons.1 hR with rfl | hR
   · have hφ : (JR W B (J 0) []).φ W := ⟨h0, fun k hk => by cases hk⟩
     exact ⟨(JR.ok (hJ 0) []).1, hφ, fun b hb => ⟨(JR.ok (W := W) (hJ 0) []).2 W hφ b hb, fun k m hk => by simp [lk] at hk⟩⟩
   · exact ⟨(hok R hR).1, hW R hR, fun b hb => ⟨(hok R hR).2 W (hW R hR) b hb, fun k m hk => by simp [lk] at hk⟩⟩
 have := calls_of_wps (T := T) hT hmix (E := E0) (args := vsv (yieldV l :: caps)) hf hb (by rw [hlen]; exact hn) hmem
   (hs l W B (fun i Z => JR W B (J i) Z) (fun Z => JR W B Jx Z) hW (fun i Z st K args hi hst ha hk1 hk2 => YieldVC.next hr hJ hJx hok hW hd hi hst ha hk1 hk2))
   (R := fun e w' => (∃ v, e = .returned v) ∧ Ext B W w' ∧ ((∃ Z, J xs.length Z w') ∨ ∃ Z, Jx Z w'))
   (fun l st E' w' hp hm => ⟨⟨_, rfl⟩, hm.ext, by
     rcases hp with ⟨Z, hZ⟩ | ⟨Z, hZ⟩
     · exact .inl ⟨Z, (hm.res _ hZ).2.1.1⟩
     · exact .inr ⟨Z, (hm.res _ hZ).2.1.1⟩⟩)
 rw [vsv_real] at this
 exact this
end
end Go.Sx
end
section
/- A symbolic executor over loaded Go code: loops over iterators. -/
namespace Go.Sx
open Go Go.RowKit

def ME.boxy : ME → Bool
 | .own _ _ _ _ => false
 | _ => true
def rigidB (N m : Nat) : SV → Bool
 | .o (.v _) => true
 | .o (.p k _) => Nat.ble N k && Nat.blt k (N + m)
 | .o (.s k _ _ _) => Nat.ble N k && Nat.blt k (N + m)
 | _ => false
def keysB (N m : Nat) (l : List (Nat × ME)) : Bool := ((List.range m).all fun q => match lk (N + q) l with
 | some mm => mm.boxy
 | none => false) && l.all (fun e => Nat.blt e.1 (N + m))
def firstB (N : Nat) (l : List (Nat × ME)) : Bool := l.all fun e => Nat.ble N e.1
def bindPs : List Tmp → List Value → List (Nat × SV) → List (Nat × SV)
 | t :: ps, v :: vs, tm => bindPs ps vs ((t, .o (.v v)) :: tm)
 | _, _, tm => tm
theorem bind_ok {E : Env} : ∀ (ps : List Tmp) (vs : List Value) (tm : List (Nat × SV)) (tmps : Array Value), (∀ t ∈ ps, t < tmps.size) → (∀ i sv, lk i tm = some sv → tmps[i]? = some (sv.real E)) →
   ∀ i sv, lk i (bindPs ps vs tm) = some sv → ((ps.zip vs).foldl (fun a (e : Tmp × Value) => a.setIfInBounds e.1 e.2) tmps)[i]? = some (sv.real E)
 | [], vs, tm, tmps, _, h => by simpa [bindPs] using h
 | t :: ps, [], tm, tmps, _, h => by simpa [bindPs] using h
 | t :: ps, v :: vs, tm, tmps, hps, h => by
   simp only [bindPs, List.zip_cons_cons, List.foldl_cons]
   refine bind_ok ps vs _ _ (fun s hs => by rw [Array.size_setIfInBounds]; exact hps s (List.mem_cons_of_mem _ hs)) (fun i sv hi => ?_)
   rw [lk_cons] at hi
   split at hi
   · rename_i e; subst e; cases hi
     rw [Array.getElem?_setIfInBounds_self_of_lt (hps _ (List.mem_cons_self ..))]; rfl
   · rename_i e
     rw [Array.getElem?_setIfInBounds_ne (fun h2 => e h2.symm)]; exact h i sv hi
theorem bind_size : ∀ (l : List (Tmp × Value)) (tmps : Array Value), (l.foldl (fun a (e : Tmp × Value) => a.setIfInBounds e.1 e.2) tmps).size = tmps.size
 | [], _ => rfl
 | e :: l, tmps => by rw [List.foldl_cons, bind_size l, Array.size_setIfInBounds]
theorem MEok.cells {E : Env} {w : World} {k b : Nat} {m : ME} (h : MEok E w k m) (hb : E.β k = some b) : ∃ cs t fr, w.heap[b]? = some (Obj.cells cs t fr) := by
 cases m with
 | box cs t => obtain ⟨b', h1, h2⟩ := h; rw [hb] at h1; cases h1; exact ⟨_, _, _, h2⟩
 | sym cs t => obtain ⟨b', h1, h2⟩ := h; rw [hb] at h1; cases h1; exact ⟨_, _, _, h2⟩
 | own t es n xs =>
   obtain ⟨_, _, ⟨h1, _⟩ | ⟨b', cur, h1, h2, _⟩⟩ := own_cases h
   · rw [hb] at h1; cases h1
   · rw [hb] at h1; cases h1; exact ⟨_, _, _, h2⟩
theorem MEok.block {E : Env} {w : World} {k : Nat} {m : ME} (h : MEok E w k m) (hm : m.boxy = true) : ∃ b, E.β k = some b := by
 cases m with
 | box cs t => obtain ⟨b, h1, _⟩ := h; exact ⟨b, h1⟩
 | sym cs t => obtain ⟨b, h1, _⟩ := h; exact ⟨b, h1⟩
 | own _ _ _ _ => cases hm
theorem keysB_lk {N m : Nat} {l : List (Nat × ME)} (h : keysB N m l = true) {q : Nat} (hq : q < m) : ∃ mm, lk (N + q) l = some mm ∧ mm.boxy = true := by
 unfold keysB at h
 rw [Bool.and_eq_true, List.all_eq_true] at h
 have := h.1 q (List.mem_range.2 hq)
 cases hl : lk (N + q) l with
 | none => rw [hl] at this; cases this
 | some mm => rw [hl] at this; exact ⟨mm, rfl, this⟩
theorem keysB_lt {N m : Nat} {l : List (Nat × ME)} (h : keysB N m l = true) {k : Nat} {mm : ME} (hk : lk k l = some mm) : k < N + m := by
 unfold keysB at h
 rw [Bool.and_eq_true] at h
 have := (List.all_eq_true.1 h.2) _ (lk_mem hk)
 exact Nat.le_of_ble_eq_true this

section
variable {P : Program} {T : TT}
structure Inv (N m : Nat) (bs : List Nat) (base : Nat) (E : Env) (me : List (Nat × ME)) (Z : List Nat) (w : World) : Prop where
 keys : keysB N m me = true
 ent : ∀ k mm, lk k me = some mm → MEok E w k mm
 inj : ∀ k k' mm mm' b, lk k me = some mm → lk k' me = some mm' → E.β k = some b → E.β k' = some b → k = k'
 rig : ∀ q b, bs[q]? = some b → E.β (N + q) = some b
 foot : ∀ k mm b, lk k me = some mm → E.β k = some b → b ∈ bs ∨ b ∈ Z
 kept : ∀ k ∈ Z, IsC w k
 ge : ∀ k ∈ Z, base ≤ k
theorem Inv.of_block {N m base : Nat} {bs : List Nat} {E : Env} {me : List (Nat × ME)} {Z : List Nat} {w w' : World} (h : Inv N m bs base E me Z w) (hb : ∀ k, k ∈ bs ∨ k ∈ Z → w'.heap[k]? = w.heap[k]?) : Inv N m bs base E me Z w' :=
 ⟨h.keys, fun k mm hk => (h.ent k mm hk).of_block (fun b hβ => hb b (h.foot k mm b hk hβ)), h.inj, h.rig, h.foot, fun k hk => (h.kept k hk).keep (hb k (.inr hk)), h.ge⟩
theorem Inv.bsC {N m base : Nat} {bs : List Nat} {E : Env} {me : List (Nat × ME)} {Z : List Nat} {w : World} (h : Inv N m bs base E me Z w) (hm : bs.length = m) {b : Nat} (hb : b ∈ bs) : IsC w b := by
 obtain ⟨q, hq, hqb⟩ := List.getElem_of_mem hb
 obtain ⟨mm, h1, h2⟩ := keysB_lk h.keys (show q < m by omega)
 obtain ⟨cs, t, fr, h3⟩ := (h.ent _ _ h1).cells (h.rig q b (by rw [List.getElem?_eq_getElem hq, hqb]))
 exact IsC.cells h3
theorem rigid_real {N m : Nat} {E E' : Env} (h : ∀ q, q < m → E.β (N + q) = E'.β (N + q)) {sv : SV} (hs : rigidB N m sv = true) : sv.real E = sv.real E' := by
 have hk : ∀ k, (Nat.ble N k && Nat.blt k (N + m)) = true → E.β k = E'.β k := by
   intro k hk
   rw [Bool.and_eq_true] at hk
   have h1 := Nat.le_of_ble_eq_true hk.1
   have h2 : k < N + m := Nat.le_of_ble_eq_true hk.2
   have := h (k - N) (by omega)
   rwa [show N + (k - N) = k by omega] at this
 cases sv with
 | a _ => cases hs
 | o x =>
   cases x with
   | v _ => rfl
   | p k off => simp only [SV.real, AV.real, hk k hs]
   | s k off n c => simp only [SV.real, AV.real, hk k hs]
   | clo _ _ => cases hs
   | w _ => cases hs
   | tu _ => cases hs
theorem MemOk.turn {C : Cx} {E : Env} {me : List (Nat × ME)} {re : List Res} {w : World} {l : Nat} {o o' : Obj} {Ra Rb : Res} (h : MemOk C E me (Ra :: re) w) (hRa : l ∈ Ra.bs) (hl : w.heap[l]? = some o) (hX : l ∈ C.X)
   (hre : ∀ R ∈ re, l ∉ R.bs) (hRb : Rb.bs = [l]) (hst : Rb.stable) (hφ : Rb.φ (w.putObj l o')) (ho : objKept o' = true) : MemOk C E me (Rb :: re) (w.putObj l o') := by
 have hlt : l < w.heap.size := (Array.getElem?_eq_some_iff.1 hl).1
 have hnl : ∀ k mm, lk k me = some mm → E.β k ≠ some l := ((h.res _ (List.mem_cons_self ..)).2.2 l hRa).2
 have hoth : ∀ b, b ≠ l → (w.putObj l o').heap[b]? = w.heap[b]? := fun b hb => World.putObj_heap_other hb
 refine ⟨fun k mm hk => (h.ent k mm hk).of_block (fun b hb => hoth b (fun e => hnl k mm hk (by rw [← e]; exact hb))), fun k mm b hk hb => ⟨(h.ge k mm b hk hb).1, by rw [World.putObj_size]; exact (h.ge k mm b hk hb).2⟩, h.inj, fun R hR => ?_, ?_, h.rig⟩
 · rcases List.mem_cons.1 hR with rfl | hR
   · refine ⟨hst, hφ, fun b hb => ?_⟩
     rw [hRb, List.mem_singleton] at hb
     subst hb
     exact ⟨⟨o', World.putObj_heap_same hlt, ho⟩, hnl⟩
   · obtain ⟨r1, r2, r3⟩ := h.res R (List.mem_cons_of_mem _ hR)
     have hne : ∀ b ∈ R.bs, (w.putObj l o').heap[b]? = w.heap[b]? := fun b hb => hoth b (fun e => hre R hR (by rw [← e]; exact hb))
     exact ⟨r1, r1 _ _ r2 hne, fun b hb => ⟨(r3 b hb).1.keep (hne b hb), (r3 b hb).2⟩⟩
 · have hx := h.ext
   exact ⟨hx.os, hx.tape, hx.output, by rw [World.putObj_size]; exact hx.size, fun k hk hn => (hoth k (fun e => hn (by rw [e]; exact hX))).trans (hx.block k hk hn), hx.drawn⟩
def imgs (E : Env) (bs : List Nat) (me : List (Nat × ME)) : List Nat := (me.filterMap fun e => E.β e.1).filter fun b => !(bs.contains b)
theorem imgs_mem {E : Env} {bs : List Nat} {me : List (Nat × ME)} {b : Nat} (h : b ∈ imgs E bs me) : b ∉ bs ∧ ∃ k mm, (k, mm) ∈ me ∧ E.β k = some b := by
 unfold imgs at h
 obtain ⟨h1, h2⟩ := List.mem_filter.1 h
 obtain ⟨e, he, hb⟩ := List.mem_filterMap.1 h1
 exact ⟨by simpa using h2, e.1, e.2, he, hb⟩
theorem imgs_in {E : Env} {bs : List Nat} {me : List (Nat × ME)} {b k : Nat} {mm : ME} (hk : lk k me = some mm) (hb : E.β k = some b) : b ∈ bs ∨ b ∈ imgs E bs me := by
 by_cases h : b ∈ bs
 · exact .inl h
 · exact .inr (List.mem_filter.2 ⟨List.mem_filterMap.2 ⟨_, lk_mem hk, hb⟩, by simpa using h⟩)
def onceB : List (Nat × ME) → Bool
 | [] => true
 | e :: r => !(r.any fun f => Nat.beq f.1 e.1) && onceB r
theorem onceB_lk : ∀ {me : List (Nat × ME)} {k : Nat} {mm : ME}, onceB me = true → (k, mm) ∈ me → lk k me = some mm
 | [], k, mm, _, h => by cases h
 | (j, x) :: r, k, mm, ho, h => by
   simp only [onceB, Bool.and_eq_true] at ho
   rw [lk_cons]
   rcases List.mem_cons.1 h with h | h
   · cases h; rw [if_pos rfl]
   · by_cases e : k = j
     · exfalso
       have h1 := ho.1
       rw [Bool.not_eq_true'] at h1
       have := (List.any_eq_false.1 h1) _ h
       simp [e] at this
     · rw [if_neg e]; exact onceB_lk ho.2 h

def recOf (fn : FuncId) (tmps : Array Value) (ps : Array Tmp) (assign body : Code) (D : Nat) (s : LoopState) (p : Option Code) : Loop := { state := s, pending := p, fn, tmps, params := ps, assign, body, defers := D }
def recR (l : Nat) (r : Loop) : Res := ⟨[l], fun w => w.heap[l]? = some (.loop r)⟩
theorem recR_stable (l : Nat) (r : Loop) : (recR l r).stable := fun w w' h hb => (hb l (List.mem_singleton.2 rfl)).trans h
def jumpOf : Code → Option Exit
 | .ret => some .ret
 | .exit id => some (.exit id)
 | _ => none
theorem WPS.range (hT : TTgood P T) (hmix : P.follows .mixedOrders = true) {C : Cx} (hX : C.X = []) {g : Operand} {ps : Array Tmp} {assign body : Code} {st : SS} {Q : Exit → SS → Prop}
   {gf : FuncId} {caps : List Value} {re' : List Res} {xs : List (List Value)} (hg : ev st g = some (.o (.v (.func (.func gf) #[] ⟨caps⟩)))) (hseq : SeqC P gf caps re' xs) (hre : ∀ R ∈ re', R ∈ st.re)
   (m : Nat) (tm0 : List (Nat × SV)) {ι : Type} (M : Nat → ι → List (Nat × ME)) (Jv : Nat → ι → Prop) (j0 : ι) (hj0 : Jv 0 j0) (hle : SLe C st ⟨tm0, M 0 j0, st.re⟩)
   (hfirst : firstB C.N (M 0 j0) = true) (hkeys : ∀ i j, Jv i j → keysB C.N m (M i j) = true ∧ onceB (M i j) = true) (hrig : (tm0.all fun e => rigidB C.N m e.2) = true)
   (hps : ∀ x ∈ xs, x.length = ps.size) (hpN : (ps.toList.all fun t => Nat.blt t C.N) = true)
   (hround : ∀ (W1 : World) (X : List Nat) (i : Nat) (j : ι) (Rx : Res), i < xs.length → Jv i j →
     sexec P T ⟨W1, X, C.N⟩ assign ⟨bindPs ps.toList (xs.getD i []) tm0, M i j, Rx :: st.re⟩ (fun e s1 => match e with
       | .normal => s1.re = Rx :: st.re ∧ ∀ Ry : Res, sexec P T ⟨W1, X, C.N⟩ body { s1 with re := Ry :: st.re } (fun e s => match e with
         | .normal => ∃ j', Jv (i + 1) j' ∧ SLe ⟨W1, X, C.N⟩ s ⟨[], M (i + 1) j', Ry :: st.re⟩
         | .ret => ∃ mx, keysB C.N m mx = true ∧ onceB mx = true ∧ SLe ⟨W1, X, C.N⟩ s ⟨[], mx, Ry :: st.re⟩ ∧ Q .ret ⟨tm0, mx, st.re⟩
         | .exit id => ∃ mx, keysB C.N m mx = true ∧ onceB mx = true ∧ SLe ⟨W1, X, C.N⟩ s ⟨[], mx, Ry :: st.re⟩ ∧ Q (.exit id) ⟨tm0, mx, st.re⟩
         | _ => False)
       | _ => False))
   (hdone : ∀ j, Jv xs.length j → Q .normal ⟨tm0, M xs.length j, st.re⟩) : WPS P C (.rangeFunc g ps assign body) st Q := by
 refine ⟨fun a w hr => ?_⟩
 have hev : a.eval g = .func (.func gf) #[] ⟨caps⟩ := by obtain ⟨E, hE⟩ := hr; exact ev_ok hE hg
 obtain ⟨E, hE⟩ := hle a w hr
 have hm := hE.mem
 obtain ⟨bs, hbsd⟩ : ∃ bs : List Nat, bs = (List.range m).map (fun q => (E.β (C.N + q)).getD 0) := ⟨_, rfl⟩
 have hbl : bs.length = m := by rw [hbsd]; simp
 have hbeta : ∀ q, q < m → ∃ b, E.β (C.N + q) = some b ∧ bs[q]? = some b := by
   intro q hq
   obtain ⟨mm, h1, h2⟩ := keysB_lk (hkeys 0 j0 hj0).1 hq
   obtain ⟨b, hb⟩ := (hm.ent _ _ h1).block h2
   exact ⟨b, hb, by rw [hbsd]; simp [hq, hb]⟩
 have hbs : ∀ q b, bs[q]? = some b → E.β (C.N + q) = some b := by
   intro q b hb
   have hq : q < m := by rw [← hbl]; exact (List.getElem?_eq_some_iff.1 hb).1
   obtain ⟨b', h1, h2⟩ := hbeta q hq
   rw [hb] at h2; cases h2; exact h1
 have hbsin : ∀ b ∈ bs, ∃ q mm, q < m ∧ lk (C.N + q) (M 0 j0) = some mm ∧ E.β (C.N + q) = some b := by
   intro b hb
   obtain ⟨q, hq, hqb⟩ := List.getElem_of_mem hb
   obtain ⟨mm, h1, _⟩ := keysB_lk (hkeys 0 j0 hj0).1 (show q < m by omega)
   exact ⟨q, mm, by omega, h1, hbs q b (by rw [List.getElem?_eq_getElem hq, hqb])⟩
 have hbslt : ∀ b ∈ bs, C.W0.heap.size ≤ b ∧ b < w.heap.size := by
   intro b hb
   obtain ⟨q, mm, _, h1, h2⟩ := hbsin b hb
   have := hm.ge _ _ _ h1 h2
   rw [hX] at this
   refine ⟨?_, this.2⟩
   rcases this.1 with h | h
   · exact h
   · cases h
 have hbsC : ∀ b ∈ bs, IsC w b := by
   intro b hb
   obtain ⟨q, mm, _, h1, h2⟩ := hbsin b hb
   obtain ⟨cs, t, fr, h3⟩ := (hm.ent _ _ h1).cells h2
   exact IsC.cells h3
 have hresbs : ∀ R ∈ st.re, ∀ b ∈ R.bs, b ∉ bs := by
   intro R hR b hb hbb
   obtain ⟨q, mm, _, h1, h2⟩ := hbsin b hbb
   exact ((hm.res R hR).2.2 b hb).2 _ _ h1 h2
 refine wpIn_rangeFunc ?_
 intro fn hfn
 obtain ⟨D, hD⟩ : ∃ D, D = w.heap.size := ⟨_, rfl⟩
 obtain ⟨l, hl⟩ : ∃ l, l = w.heap.size + 1 := ⟨_, rfl⟩
 obtain ⟨rc, hrc⟩ : ∃ rc, rc = recOf fn a.tmps ps assign body D := ⟨_, rfl⟩
 obtain ⟨W, hW⟩ : ∃ W, W = (w.alloc (.deferred (some []))).alloc (.loop (rc .ready none)) := ⟨_, rfl⟩
 have hWsize : W.heap.size = w.heap.size + 2 := by rw [hW]; simp
 have hWl : W.heap[l]? = some (.loop (rc .ready none)) := by
   rw [hW, hl]; have := World.alloc_heap_new (w.alloc (.deferred (some []))) (.loop (rc .ready none)); rwa [World.size_alloc] at this
 have hWD : W.heap[D]? = some (.deferred (some [])) := by
   rw [hW, hD]; exact (Below.heap_alloc _ _ _ (by simp)).trans (World.alloc_heap_new w _)
 have hWold : ∀ b, b < w.heap.size → W.heap[b]? = w.heap[b]? := fun b hb => by
   rw [hW]; exact (Below.heap_alloc _ _ _ (by simp; omega)).trans (Below.heap_alloc _ _ _ hb)
 have hWd : W.drawn = w.drawn := by rw [hW]; rfl
 have hWx : W.os = w.os ∧ W.tape = w.tape ∧ W.output = w.output := by rw [hW]; exact ⟨rfl, rfl, rfl⟩
 obtain ⟨B, hB⟩ : ∃ B, B = bs ++ [l] := ⟨_, rfl⟩
 have hBin : ∀ b, b ∈ B ↔ b ∈ bs ∨ b = l := fun b => by rw [hB]; simp
 have hreW : facts st.re W := fun R hR => by
   obtain ⟨r1, r2, r3⟩ := hm.res R hR
   exact r1 _ _ r2 (fun b hb => hWold b (r3 b hb).1.lt)
 have hreB : ∀ R ∈ st.re, ∀ b ∈ R.bs, b ∉ B ∧ b < w.heap.size := fun R hR b hb => by
   have h1 := ((hm.res R hR).2.2 b hb).1.lt
   refine ⟨fun h => ?_, h1⟩
   rcases (hBin b).1 h with h | h
   · exact hresbs R hR b hb h
   · omega
 obtain ⟨J, hJ⟩ : ∃ J : Nat → List Nat → World → Prop, J = fun i Z w' => ∃ j E', Jv i j ∧ Inv C.N m bs W.heap.size E' (M i j) Z w' ∧ w'.heap[l]? = some (.loop (rc .ready none)) := ⟨_, rfl⟩
 obtain ⟨Jx, hJx⟩ : ∃ Jx : List Nat → World → Prop, Jx = fun Z w' => ∃ c e mx E', jumpOf c = some e ∧ Q e ⟨tm0, mx, st.re⟩ ∧ Inv C.N m bs W.heap.size E' mx Z w' ∧ w'.heap[l]? = some (.loop (rc .done (some c))) := ⟨_, rfl⟩
 have hOJ : ∀ i, Own B (J i) := by
   intro i
   rw [hJ]
   refine ⟨fun Z w1 w2 h hb => ?_, fun Z w1 h k hk => ?_⟩
   · obtain ⟨j, E', h1, h2, h3⟩ := h
     exact ⟨j, E', h1, h2.of_block (fun k hk => hb k (hk.imp (fun h => (hBin k).2 (.inl h)) id)), (hb l (.inl ((hBin l).2 (.inr rfl)))).trans h3⟩
   · obtain ⟨j, E', h1, h2, h3⟩ := h
     rcases hk with hk | hk
     · rcases (hBin k).1 hk with hk | rfl
       · exact h2.bsC hbl hk
       · exact ⟨_, h3, rfl⟩
     · exact h2.kept k hk
 have hOX : Own B Jx := by
   rw [hJx]
   refine ⟨fun Z w1 w2 h hb => ?_, fun Z w1 h k hk => ?_⟩
   · obtain ⟨c, e, mx, E', h0, h1, h2, h3⟩ := h
     exact ⟨c, e, mx, E', h0, h1, h2.of_block (fun k hk => hb k (hk.imp (fun h => (hBin k).2 (.inl h)) id)), (hb l (.inl ((hBin l).2 (.inr rfl)))).trans h3⟩
   · obtain ⟨c, e, mx, E', h0, h1, h2, h3⟩ := h
     rcases hk with hk | hk
     · rcases (hBin k).1 hk with hk | rfl
       · exact h2.bsC hbl hk
       · exact ⟨_, h3, rfl⟩
     · exact h2.kept k hk
 have hJ0 : J 0 [] W := by
   rw [hJ]
   refine ⟨j0, E, hj0, ⟨(hkeys 0 j0 hj0).1, fun k mm hk => (hm.ent k mm hk).of_block (fun b hb => hWold b (hm.ge k mm b hk hb).2), hm.inj, hbs, fun k mm b hk hb => .inl ?_, fun k hk => (by cases hk), fun k hk => (by cases hk)⟩, hWl⟩
   have h1 := keysB_lt (hkeys 0 j0 hj0).1 hk
   have h2 : C.N ≤ k := Nat.le_of_ble_eq_true ((List.all_eq_true.1 hfirst) _ (lk_mem hk))
   obtain ⟨b', h3, h4⟩ := hbeta (k - C.N) (by omega)
   rw [show C.N + (k - C.N) = k by omega, hb] at h3
   cases h3
   exact List.mem_of_getElem? h4
 have hinvnl : ∀ {E' : Env} {me : List (Nat × ME)} {Z : List Nat} {w1 : World} {r : Loop}, Inv C.N m bs W.heap.size E' me Z w1 → w1.heap[l]? = some (.loop r) → (∀ k mm, lk k me = some mm → E'.β k ≠ some l) ∧ l ∉ bs := by
   intro E' me Z w1 r h1 h2
   refine ⟨fun k mm hk hb => ?_, fun h => by have := (hbslt l h).2; omega⟩
   obtain ⟨cs, t, fr, h3⟩ := (h1.ent k mm hk).cells hb
   rw [h2] at h3; cases h3
 have hN : a.tmps.size = C.N := hE.size
 have hR : Rounds P l W B xs J Jx := by
   intro i Z w1 hi hj hext hZ ro m'
   rw [hJ] at hj
   obtain ⟨j, E', hjv, hinv, hrec⟩ := hj
   obtain ⟨hnl, hlbs⟩ := hinvnl hinv hrec
   have hxmem : xs.getD i [] ∈ xs := by
     rw [List.getD_eq_getElem?_getD, List.getElem?_eq_getElem hi]; exact List.getElem_mem hi
   have hxl : (xs.getD i []).length = ps.size := hps _ hxmem
   have hy := run_yield (P := P) (w := w1) (args := (xs.getD i []).toArray) hrec (by rw [hrc]; simpa [recOf] using hxl)
   obtain ⟨bz, hbz⟩ : ∃ bz : Loop, bz = { rc .ready none with state := .busy } := ⟨_, rfl⟩
   obtain ⟨Xs, hXs⟩ : ∃ Xs, Xs = bs ++ (l :: Z) := ⟨_, rfl⟩
   have hXin : ∀ b, b ∈ Xs ↔ b ∈ bs ∨ b = l ∨ b ∈ Z := fun b => by rw [hXs]; simp
   have hw1l : l < w1.heap.size := (Array.getElem?_eq_some_iff.1 hrec).1
   have hlZ : l ∉ Z := fun h => by have := hZ l h; omega
   have hreal : ∀ q, q < m → E'.β (C.N + q) = E.β (C.N + q) := fun q hq => by
     obtain ⟨b, h1, h2⟩ := hbeta q hq
     rw [h1, hinv.rig q b h2]
   have leave : ∀ (mx : List (Nat × ME)) (a2 : Act) (w4 : World) (o : Loop), keysB C.N m mx = true → onceB mx = true → SR ⟨w1, Xs, C.N⟩ ⟨[], mx, recR l bz :: st.re⟩ a2 w4 →
       ∃ E2, Inv C.N m bs W.heap.size E2 mx (imgs E2 bs mx) (w4.putObj l (.loop o)) ∧ Moved B Z (imgs E2 bs mx) w1 (w4.putObj l (.loop o)) ∧ w4.heap[l]? = some (.loop bz) ∧ (w4.putObj l (.loop o)).heap[l]? = some (.loop o) := by
     intro mx a2 w4 o hk1 hk2 hsr
     obtain ⟨E2, hE2⟩ := hsr
     have hm2 := hE2.mem
     have hr4 := hm2.res _ (List.mem_cons_self ..)
     have hl4 : w4.heap[l]? = some (.loop bz) := hr4.2.1
     have hnl4 : ∀ k mm, lk k mx = some mm → E2.β k ≠ some l := (hr4.2.2 l (List.mem_singleton.2 rfl)).2
     have hoth : ∀ b, b ≠ l → (w4.putObj l (.loop o)).heap[b]? = w4.heap[b]? := fun b hb => World.putObj_heap_other hb
     have hlt4 : l < w4.heap.size := (Array.getElem?_eq_some_iff.1 hl4).1
     have hent : ∀ k mm, lk k mx = some mm → MEok E2 (w4.putObj l (.loop o)) k mm := fun k mm hk => (hm2.ent k mm hk).of_block (fun b hb => hoth b (fun e => hnl4 k mm hk (by rw [← e]; exact hb)))
     have hgr : ∀ k ∈ imgs E2 bs mx, k ∈ Z ∨ w1.heap.size ≤ k := by
       intro k hk
       obtain ⟨h1, kk, mm, h2, h3⟩ := imgs_mem hk
       have hlk := onceB_lk hk2 h2
       have := (hm2.ge kk mm k hlk h3).1
       rcases this with h4 | h4
       · exact .inr h4
       · rcases (hXin k).1 h4 with h5 | h5 | h5
         · exact absurd h5 h1
         · exact absurd (by rw [← h5]; exact h3) (hnl4 kk mm hlk)
         · exact .inl h5
     refine ⟨E2, ⟨hk1, hent, hm2.inj, fun q b hq => ?_, fun k mm b hk hb => imgs_in hk hb, fun k hk => ?_, fun k hk => ?_⟩, ⟨hm2.ext.os, hm2.ext.tape, hm2.ext.output, by rw [World.putObj_size]; exact hm2.ext.size, fun k hk hkB hkZ => ?_, hgr, hm2.ext.drawn⟩, hl4, World.putObj_heap_same hlt4⟩
     · have hqm : q < m := by rw [← hbl]; exact (List.getElem?_eq_some_iff.1 hq).1
       obtain ⟨mm, h1, _⟩ := keysB_lk hk1 hqm
       refine hm2.rig q b mm ?_ h1
       show Xs[q]? = some b
       rw [hXs, List.getElem?_append_left (by omega)]; exact hq
     · obtain ⟨h1, kk, mm, h2, h3⟩ := imgs_mem hk
       obtain ⟨cs, t, fr, h4⟩ := (hent kk mm (onceB_lk hk2 h2)).cells h3
       exact IsC.cells h4
     · rcases hgr k hk with h | h
       · exact hZ k h
       · exact Nat.le_trans hext.size h
     · have hkl : k ≠ l := fun e => hkB ((hBin k).2 (.inr e))
       refine (hoth k hkl).trans (hm2.ext.block k hk (fun h => ?_))
       rcases (hXin k).1 h with h5 | h5 | h5
       · exact hkB ((hBin k).2 (.inl h5))
       · exact hkl h5
       · exact hkZ h5
   obtain ⟨tz, htz⟩ : ∃ tz : Array Value, tz = (ps.zip (xs.getD i []).toArray).foldl (fun tmps (t, a) => tmps.setIfInBounds t a) a.tmps := ⟨_, rfl⟩
   have htz2 : tz = (ps.toList.zip (xs.getD i [])).foldl (fun tmps (e : Tmp × Value) => tmps.setIfInBounds e.1 e.2) a.tmps := by
     rw [htz, ← Array.foldl_toList]
     have : (ps.zip (xs.getD i []).toArray).toList = ps.toList.zip (xs.getD i []) := by simp
     rw [this]
   have hSR0 : SR ⟨w1, Xs, C.N⟩ ⟨bindPs ps.toList (xs.getD i []) tm0, M i j, recR l (rc .ready none) :: st.re⟩ { tmps := tz, defers := [] } w1 := by
     refine ⟨E', by show tz.size = C.N; rw [htz2, bind_size, hN], ⟨[], rfl, List.nodup_nil, by simp⟩, ?_, ?_⟩
     · show ∀ i_1 sv, lk i_1 (bindPs ps.toList (xs.getD i []) tm0) = some sv → tz[i_1]? = some (sv.real E')
       rw [htz2]
       refine bind_ok ps.toList _ tm0 a.tmps (fun t ht => ?_) (fun k sv hk => ?_)
       · have := (List.all_eq_true.1 hpN) t ht
         have h2 : t < C.N := Nat.le_of_ble_eq_true this
         rw [hN]; exact h2
       · have e := rigid_real (E := E') (E' := E) (N := C.N) (m := m) hreal (show rigidB C.N m sv = true from (List.all_eq_true.1 hrig) (k, sv) (lk_mem hk))
         rw [e]
         exact hE.tm k sv hk
     · refine ⟨hinv.ent, fun k mm b hk hb => ?_, hinv.inj, fun Rr hRr => ?_, Ext.refl _ _, fun q b mm hq hk => ?_⟩
       · obtain ⟨cs, t, fr, h3⟩ := (hinv.ent k mm hk).cells hb
         exact ⟨.inr ((hXin b).2 ((hinv.foot k mm b hk hb).imp id .inr)), (Array.getElem?_eq_some_iff.1 h3).1⟩
       · rcases List.mem_cons.1 hRr with rfl | hRr
         · exact ⟨recR_stable _ _, hrec, fun b hb => by
             rw [show (recR l (rc .ready none)).bs = [l] from rfl, List.mem_singleton] at hb
             subst hb
             exact ⟨⟨_, hrec, rfl⟩, hnl⟩⟩
         · obtain ⟨r1, r2, r3⟩ := hm.res Rr hRr
           have hne : ∀ b ∈ Rr.bs, w1.heap[b]? = w.heap[b]? := fun b hb => by
             obtain ⟨h1, h2⟩ := hreB Rr hRr b hb
             rw [hext.block b (by omega) h1, hWold b h2]
           refine ⟨r1, r1 _ _ r2 hne, fun b hb => ⟨(r3 b hb).1.keep (hne b hb), fun k mm hk hkb => ?_⟩⟩
           rcases hinv.foot k mm b hk hkb with h | h
           · exact hresbs Rr hRr b hb h
           · have h3 := hZ b h
             have h4 := (hreB Rr hRr b hb).2
             omega
       · have hqm : q < m := by
           have := keysB_lt hinv.keys hk
           have h2 : C.N + q < C.N + m := this
           omega
         refine hinv.rig q b ?_
         have hq2 : Xs[q]? = some b := hq
         rw [hXs, List.getElem?_append_left (by omega)] at hq2
         exact hq2
   refine ⟨fn, tz, assign, body, by rw [hy, htz, hrc]; rfl, roundIn_of_wpIn (F := FW ro) trivial ?_⟩
   refine wpIn_mono (sexec_sound (ro := some l) (n := m') hT hmix assign (hround w1 Xs i j (recR l (rc .ready none)) hi hjv) hSR0) ?_
   rintro e a1 w2 ⟨s1, hs1, hq⟩
   cases e with
   | normal =>
     obtain ⟨hre1, hbody⟩ := hq
     obtain ⟨E1, hE1⟩ := hs1
     have hm1 := hE1.mem
     rw [hre1] at hm1
     have hrec2 : w2.heap[l]? = some (.loop (rc .ready none)) := (hm1.res _ (List.mem_cons_self ..)).2.1
     have hlt2 : l < w2.heap.size := (Array.getElem?_eq_some_iff.1 hrec2).1
     refine ⟨_, run_beginRound hrec2 (by rw [hrc]; rfl), ?_⟩
     have hbz2 : ({ rc .ready none with state := .busy } : Loop) = bz := hbz.symm
     rw [hbz2]
     have hSR1 : SR ⟨w1, Xs, C.N⟩ { s1 with re := recR l bz :: st.re } a1 (w2.putObj l (.loop bz)) := by
       refine ⟨E1, hE1.size, hE1.defers.keep (fun b hb => ?_), hE1.tm, MemOk.turn hm1 (List.mem_singleton.2 rfl) hrec2 ((hXin l).2 (.inr (.inl rfl))) (fun R hR h => ?_) rfl (recR_stable _ _) (World.putObj_heap_same hlt2) rfl⟩
       · exact (World.putObj_heap_other (fun e => by rw [e, hrec2] at hb; cases hb)).trans hb
       · have := (hreB R hR l h).2; omega
     refine wpIn_mono (sexec_sound (ro := some l) (n := m') hT hmix body (hbody (recR l bz)) hSR1) ?_
     rintro e a2 w4 ⟨s2, hs2, hq2⟩
     cases e with
     | normal =>
       obtain ⟨j', hj', hsle⟩ := hq2
       obtain ⟨E2, h1, h2, h3, h4⟩ := leave _ a2 w4 (rc .ready none) (hkeys (i + 1) j' hj').1 (hkeys (i + 1) j' hj').2 (hsle a2 w4 hs2)
       refine ⟨_, _, run_endRound none h3, .inl ⟨rfl, imgs E2 bs (M (i + 1) j'), ?_, ?_⟩⟩
       · rw [hJ]
         refine ⟨j', E2, hj', ?_, ?_⟩
         · have : ({ bz with state := .ready, pending := none } : Loop) = rc .ready none := by rw [hbz, hrc]; rfl
           show Inv C.N m bs W.heap.size E2 (M (i + 1) j') _ (w4.putObj l (.loop { bz with state := .ready, pending := none }))
           rw [this]; exact h1
         · have : ({ bz with state := .ready, pending := none } : Loop) = rc .ready none := by rw [hbz, hrc]; rfl
           show (w4.putObj l (.loop { bz with state := .ready, pending := none })).heap[l]? = _
           rw [this]; exact h4
       · have : ({ bz with state := .ready, pending := none } : Loop) = rc .ready none := by rw [hbz, hrc]; rfl
         show Moved B Z _ w1 (w4.putObj l (.loop { bz with state := .ready, pending := none }))
         rw [this]; exact h2
     | ret =>
       obtain ⟨mx, hk1, hk2, hsle, hQ⟩ := hq2
       obtain ⟨E2, h1, h2, h3, h4⟩ := leave mx a2 w4 (rc .done (some .ret)) hk1 hk2 (hsle a2 w4 hs2)
       have hee : ({ bz with state := .done, pending := some .ret } : Loop) = rc .done (some .ret) := by rw [hbz, hrc]; rfl
       refine ⟨_, _, run_endRound (some .ret) h3, .inr ⟨rfl, imgs E2 bs mx, ?_, ?_⟩⟩
       · rw [hJx]
         refine ⟨.ret, .ret, mx, E2, rfl, hQ, ?_, ?_⟩
         · show Inv C.N m bs W.heap.size E2 mx _ (w4.putObj l (.loop { bz with state := .done, pending := some .ret }))
           rw [hee]; exact h1
         · show (w4.putObj l (.loop { bz with state := .done, pending := some .ret })).heap[l]? = _
           rw [hee]; exact h4
       · show Moved B Z _ w1 (w4.putObj l (.loop { bz with state := .done, pending := some .ret }))
         rw [hee]; exact h2
     | exit id =>
       obtain ⟨mx, hk1, hk2, hsle, hQ⟩ := hq2
       obtain ⟨E2, h1, h2, h3, h4⟩ := leave mx a2 w4 (rc .done (some (.exit id))) hk1 hk2 (hsle a2 w4 hs2)
       have hee : ({ bz with state := .done, pending := some (.exit id) } : Loop) = rc .done (some (.exit id)) := by rw [hbz, hrc]; rfl
       refine ⟨_, _, run_endRound (some (.exit id)) h3, .inr ⟨rfl, imgs E2 bs mx, ?_, ?_⟩⟩
       · rw [hJx]
         refine ⟨.exit id, .exit id, mx, E2, rfl, hQ, ?_, ?_⟩
         · show Inv C.N m bs W.heap.size E2 mx _ (w4.putObj l (.loop { bz with state := .done, pending := some (.exit id) }))
           rw [hee]; exact h1
         · show (w4.putObj l (.loop { bz with state := .done, pending := some (.exit id) })).heap[l]? = _
           rw [hee]; exact h4
       · show Moved B Z _ w1 (w4.putObj l (.loop { bz with state := .done, pending := some (.exit id) }))
         rw [hee]; exact h2
     | goto _ => exact hq2.elim
     | panic _ => exact hq2.elim
     | outgrown => exact hq2.elim
   | ret => exact hq.elim
   | exit _ => exact hq.elim
   | goto _ => exact hq.elim
   | panic _ => exact hq.elim
   | outgrown => exact hq.elim
 have hcalls := hseq.calls l W B J Jx (fun R hR => hreW R (hre R hR)) (fun R hR b hb => (hreB R (hre R hR) b hb).1) (fun b hb => by
   rcases (hBin b).1 hb with h | h
   · have := (hbslt b h).2; omega
   · omega) hOJ hOX hR hJ0
 refine ⟨l, [{ target := .collected D, args := #[] }], W, { target := .fn (.func gf) ⟨caps⟩, args := #[yieldV l] }, W, gf, #[yieldV l] ++ ⟨caps⟩, W, ?_, ?_, ?_, ?_, fun h => (by cases h), ?_⟩
 · rw [hl, hW, hrc, hD]; exact run_enterLoop_outer fn a.tmps ps assign body
 · simp only [resolve, hev]
   simp [go_sem]
 · intro f' _; trivial
 · have eg := fun args w => hseq.enters args w
   simp [invoke, go_sem, eg]
 · have hargs : #[yieldV l] ++ (⟨caps⟩ : Array Value) = (yieldV l :: caps).toArray := by apply Array.ext'; simp
   rw [hargs]
   refine (callsIn_wide (n := 0 - 1)).2 (hcalls.mono ?_)
   rintro e w3 ⟨⟨v, rfl⟩, hext, hfin⟩
   have fin : ∀ (mx : List (Nat × ME)) (E' : Env) (Z : List Nat) (r : Loop) (o : Loop), Inv C.N m bs W.heap.size E' mx Z w3 → w3.heap[l]? = some (.loop r) →
       SR C ⟨tm0, mx, st.re⟩ { a with defers := [{ target := .collected D, args := #[] }] ++ a.defers } (w3.putObj l (.loop o)) := by
     intro mx E' Z r o hinv hrec
     obtain ⟨hnl, hlbs⟩ := hinvnl hinv hrec
     have hoth : ∀ b, b ≠ l → (w3.putObj l (.loop o)).heap[b]? = w3.heap[b]? := fun b hb => World.putObj_heap_other hb
     have hreal : ∀ q, q < m → E'.β (C.N + q) = E.β (C.N + q) := fun q hq => by
       obtain ⟨b, h1, h2⟩ := hbeta q hq
       rw [h1, hinv.rig q b h2]
     have hold : ∀ b, b < w.heap.size → b ∉ bs → (w3.putObj l (.loop o)).heap[b]? = w.heap[b]? := fun b hb hbb => by
       have hbl2 : b ≠ l := by omega
       have hbB : b ∉ B := fun h => by rcases (hBin b).1 h with h | h; exact hbb h; exact hbl2 h
       rw [hoth b hbl2, hext.block b (by omega) hbB, hWold b hb]
     refine ⟨E', hN, ?_, fun i sv hi => ?_, ⟨fun k mm hk => (hinv.ent k mm hk).of_block (fun b hb => hoth b (fun e => hnl k mm hk (by rw [← e]; exact hb))), fun k mm b hk hb => ?_, hinv.inj, fun R hR => ?_, ?_, fun q b mm hq => by rw [hX] at hq; simp at hq⟩⟩
     · obtain ⟨ds, h1, h2, h3⟩ := hE.defers
       refine ⟨D :: ds, by simp [h1], List.nodup_cons.2 ⟨fun h => ?_, h2⟩, fun b hb => ?_⟩
       · have := (Array.getElem?_eq_some_iff.1 (h3 D h).2).1; omega
       · rcases List.mem_cons.1 hb with rfl | hb
         · refine ⟨by rw [hD]; exact hm.ext.size, ?_⟩
           have hbl2 : b ≠ l := by omega
           have hbB : b ∉ B := fun h => by
             rcases (hBin b).1 h with h | h
             · have := (hbslt b h).2; omega
             · exact hbl2 h
           rw [hoth b hbl2, hext.block b (by omega) hbB]; exact hWD
         · have h4 := h3 b hb
           have h5 := (Array.getElem?_eq_some_iff.1 h4.2).1
           refine ⟨h4.1, ?_⟩
           rw [hold b h5 (fun h => by
             obtain ⟨o2, h6, h7⟩ := hbsC b h
             rw [h4.2] at h6; cases h6; cases h7)]
           exact h4.2
     · rw [rigid_real (E := E') (E' := E) (N := C.N) (m := m) hreal (show rigidB C.N m sv = true from (List.all_eq_true.1 hrig) (i, sv) (lk_mem hi))]
       exact hE.tm i sv hi
     · obtain ⟨cs, t, fr, h3⟩ := (hinv.ent k mm hk).cells hb
       refine ⟨.inl ?_, by rw [World.putObj_size]; exact (Array.getElem?_eq_some_iff.1 h3).1⟩
       rcases hinv.foot k mm b hk hb with h | h
       · exact (hbslt b h).1
       · have h5 := hinv.ge b h
         have h6 : C.W0.heap.size ≤ w.heap.size := hm.ext.size
         omega
     · obtain ⟨r1, r2, r3⟩ := hm.res R hR
       have hne : ∀ b ∈ R.bs, (w3.putObj l (.loop o)).heap[b]? = w.heap[b]? := fun b hb => hold b (hreB R hR b hb).2 (hresbs R hR b hb)
       refine ⟨r1, r1 _ _ r2 hne, fun b hb => ⟨(r3 b hb).1.keep (hne b hb), fun k mm hk hkb => ?_⟩⟩
       rcases hinv.foot k mm b hk hkb with h | h
       · exact hresbs R hR b hb h
       · have h3 := hinv.ge b h
         have h4 := (hreB R hR b hb).2
         omega
     · have hx := hm.ext
       refine ⟨(hext.os.trans hWx.1).trans hx.os, (hext.tape.trans hWx.2.1).trans hx.tape, (hext.output.trans hWx.2.2).trans hx.output, ?_, fun k hk hn => ?_, ?_⟩
       · rw [World.putObj_size]
         have h1 := hx.size
         have h2 := hext.size
         omega
       · have h1 : k < w.heap.size := Nat.lt_of_lt_of_le hk hx.size
         rw [hold k h1 (fun h => by have := (hbslt k h).1; omega)]
         exact hx.block k hk hn
       · exact Nat.le_trans hx.drawn (by rw [← hWd]; exact hext.drawn)
   rcases hfin with ⟨Z, hj⟩ | ⟨Z, hj⟩
   · rw [hJ] at hj
     obtain ⟨j, E', hjv, hinv, hrec⟩ := hj
     have he := run_endLoop (P := P) hrec (by rw [hrc]; simp [recOf])
     refine ⟨_, _, he, ?_⟩
     have : (rc .ready none).pending = none := by rw [hrc]; rfl
     rw [this]
     exact ⟨_, fin _ E' Z _ _ hinv hrec, hdone j hjv⟩
   · rw [hJx] at hj
     obtain ⟨c, e, mx, E', hce, hQ, hinv, hrec⟩ := hj
     have he := run_endLoop (P := P) hrec (by rw [hrc]; simp [recOf])
     refine ⟨_, _, he, ?_⟩
     have : (rc .done (some c)).pending = some c := by rw [hrc]; rfl
     rw [this]
     cases c with
     | ret => cases hce; exact wpIn_ret ⟨_, fin mx E' Z _ _ hinv hrec, hQ⟩
     | exit id => cases hce; exact wpIn_exit ⟨_, fin mx E' Z _ _ hinv hrec, hQ⟩
     | _ => cases hce
end
end Go.Sx
end
section
/- A symbolic executor over loaded Go code: calls that yield a closure over boxes. -/
namespace Go.Sx
open Go Go.RowKit

section
variable {P : Program} {T : TT} {C : Cx} {E : Env} {st st' : SS}
def ptrV (a : Addr) : Value := .pointer (some a)
def retsF (g : FuncId) (cs : List (List Value)) (w : World) (e : Ending) (w' : World) : Prop :=
 ∃ as : List Addr, as.length = cs.length ∧ e = .returned (.func (.func g) #[] (as.map ptrV).toArray) ∧ (∀ (i : Nat) a c, as[i]? = some a → cs[i]? = some c → SlF (some a) c w' ∧ w.heap.size ≤ a.block) ∧ Bel w.heap.size w w'
def postF (g : FuncId) (cs : List (List Value)) (l : List SV) (st : SS) : Prop := ∃ ks : List Nat, l = [.o (.clo g (ks.map CP.l))] ∧ ks.length = cs.length ∧ ∀ (i : Nat) k c, ks[i]? = some k → cs[i]? = some c → boxV st k = some c
theorem postF_ok {g : FuncId} {cs : List (List Value)} {w : World} {N : Nat} {l : List SV} {w' : World} (h : postF g cs l st) (hm : MemOk ⟨w, [], N⟩ E st.me st.re w') : retsF g cs w (.returned (retV (l.map (SV.real E)))) w' := by
 obtain ⟨ks, rfl, hlen, hk⟩ := h
 have hb : ∀ (i : Nat) k c, ks[i]? = some k → cs[i]? = some c → ∃ b t, E.β k = some b ∧ w'.heap[b]? = some (.cells c.toArray t (0, 0)) ∧ w.heap.size ≤ b := by
   intro i k c h1 h2
   have := hk i k c h1 h2
   unfold boxV at this
   cases hl : lk k st.me with
   | none => rw [hl] at this; cases this
   | some mm =>
     rw [hl] at this
     have hent := hm.ent k mm hl
     have hge : ∀ b, E.β k = some b → w.heap.size ≤ b := fun b hb => by
       rcases (hm.ge k mm b hl hb).1 with h | h
       · exact h
       · cases h
     cases mm with
     | box cells t =>
       obtain ⟨b, h3, h4⟩ := hent
       simp only at this
       rw [allV_real E this] at h4
       exact ⟨b, t, h3, h4, hge b h3⟩
     | sym cells t =>
       obtain ⟨b, h3, h4⟩ := hent
       simp only [Option.some.injEq] at this
       subst this
       exact ⟨b, t, h3, h4, hge b h3⟩
     | own t es n xs => simp only at this; cases this
 refine ⟨ks.map (fun k => ⟨(E.β k).getD 0, 0, none⟩), by simp [hlen], ?_, fun i a c ha hc => ?_, hm.ext.below⟩
 · show Ending.returned (Value.func (.func g) #[] ((ks.map CP.l).map (CP.real E)).toArray) = _
   congr 2
   rw [List.map_map, List.map_map]
   congr 1
   apply List.map_congr_left
   intro k hkm
   obtain ⟨i, hi, hik⟩ := List.getElem_of_mem hkm
   obtain ⟨b, t, h1, _⟩ := hb i k cs[i] (by rw [List.getElem?_eq_getElem hi, hik]) (List.getElem?_eq_getElem (by omega))
   simp [CP.real, ptrV, h1]
 · rw [List.getElem?_map] at ha
   cases hki : ks[i]? with
   | none => rw [hki] at ha; cases ha
   | some k =>
     rw [hki] at ha
     simp only [Option.map_some, Option.some.injEq] at ha
     obtain ⟨b, t, h1, h2, h3⟩ := hb i k c hki hc
     rw [h1] at ha
     subst ha
     exact ⟨.inr ⟨b, 0, rfl, fun j v hj => by rw [cell_of h2, Nat.zero_add]; simpa using hj⟩, h3⟩
theorem FnF.of (hT : TTgood P T) (hmix : P.follows .mixedOrders = true) {f : FuncId} {fn : Func} {c : Code} {vs : List Value} {re : List Res} {g : FuncId} {cs : List (List Value)}
   (hf : P.funcs[f]? = some fn) (hb : fn.body = some c) (hnm : (fn.name == "runtime.NumGoroutine") = false) (hn : vs.length ≤ fn.ntmps) (hok : ∀ R ∈ re, R.ok)
   (hs : ∀ w, facts re w → sexec P T ⟨w, [], fn.ntmps⟩ c ⟨argTm 0 (vsv vs), [], re⟩ (retQ T fn (postF g cs))) : FnM P f vs (facts re) (retsF g cs) :=
 FnM.of hT hmix hf hb hnm hn hok (fun w l st E w' hp hm => postF_ok hp hm) hs
theorem MemOk.more {C : Cx} {me : List (Nat × ME)} {re : List Res} {w : World} (h : MemOk C E me re w) {R : Res} (hR : R.ok) (hφ : R.φ w) (hb : ∀ b ∈ R.bs, ∀ k m, lk k me = some m → E.β k ≠ some b) : MemOk C E me (R :: re) w :=
 ⟨h.ent, h.ge, h.inj, fun R' hR' => by
   rcases List.mem_cons.1 hR' with rfl | hR'
   · exact ⟨hR.1, hφ, fun b hb' => ⟨hR.2 w hφ b hb', hb b hb'⟩⟩
   · exact h.res R' hR', h.ext, h.rig⟩
theorem SlB_block {a : Addr} {xs : List Value} {b : Nat} (h : b ∈ (SlRes (some a) xs).bs) : b = a.block := by
 have h2 : b ∈ SlB (some a) xs := h
 cases xs with
 | nil => simp [SlB] at h2
 | cons x r => simpa [SlB] using h2
theorem CallVC.f1 {g g' : FuncId} {args : List SV} {c1 : List Value} {K : SV → SS → Prop} (hE : Enters P g) (h : CallV P g args st (retsF g' [c1]))
   (hk : ∀ a1, K (.o (.v (.func (.func g') #[] ⟨[ptrV a1]⟩))) { st with re := SlRes (some a1) c1 :: st.re }) : CallVC P C g args st K := by
 refine ⟨hE, fun E w hm => (h E w (fun k mm _ hk => hm.ent k mm hk) (fun R hR => (hm.res R hR).2.1)).mono ?_⟩
 rintro e w' ⟨as, hlen, rfl, hcs, hb⟩
 obtain ⟨a1, rfl⟩ : ∃ a1, as = [a1] := by
   match as, hlen with
   | [a], _ => exact ⟨a, rfl⟩
 obtain ⟨f1, n1⟩ := hcs 0 a1 c1 rfl rfl
 have hm' := hm.world (st := st) hb
 refine ⟨E, { st with re := SlRes (some a1) c1 :: st.re }, .o (.v (.func (.func g') #[] ⟨[ptrV a1]⟩)), rfl, hm'.more (SlRes.ok _ _) f1 (fun b hb' k m hkk hβ => ?_), KD.below hb, fun i sv hi => ⟨sv, hi, rfl⟩, hk a1⟩
 have h1 := SlB_block hb'
 have := (hm.ge k m b hkk hβ).2
 omega
theorem CallVC.f2 {g g' : FuncId} {args : List SV} {c1 c2 : List Value} {K : SV → SS → Prop} (hE : Enters P g) (h : CallV P g args st (retsF g' [c1, c2]))
   (hk : ∀ a1 a2, K (.o (.v (.func (.func g') #[] ⟨[ptrV a1, ptrV a2]⟩))) { st with re := SlRes (some a1) c1 :: SlRes (some a2) c2 :: st.re }) : CallVC P C g args st K := by
 refine ⟨hE, fun E w hm => (h E w (fun k mm _ hk => hm.ent k mm hk) (fun R hR => (hm.res R hR).2.1)).mono ?_⟩
 rintro e w' ⟨as, hlen, rfl, hcs, hb⟩
 obtain ⟨a1, a2, rfl⟩ : ∃ a1 a2, as = [a1, a2] := by
   match as, hlen with
   | [a, b], _ => exact ⟨a, b, rfl⟩
 obtain ⟨f1, n1⟩ := hcs 0 a1 c1 rfl rfl
 obtain ⟨f2, n2⟩ := hcs 1 a2 c2 rfl rfl
 have hm' := hm.world (st := st) hb
 have hno : ∀ a : Addr, w.heap.size ≤ a.block → ∀ xs, ∀ b ∈ (SlRes (some a) xs).bs, ∀ k m, lk k st.me = some m → E.β k ≠ some b := fun a ha xs b hb' k m hkk hβ => by
   have h1 := SlB_block hb'
   have := (hm.ge k m b hkk hβ).2
   omega
 exact ⟨E, { st with re := SlRes (some a1) c1 :: SlRes (some a2) c2 :: st.re }, .o (.v (.func (.func g') #[] ⟨[ptrV a1, ptrV a2]⟩)), rfl, (hm'.more (SlRes.ok _ _) f2 (hno a2 n2 c2)).more (SlRes.ok _ _) f1 (hno a1 n1 c1), KD.below hb, fun i sv hi => ⟨sv, hi, rfl⟩, hk a1 a2⟩
end
end Go.Sx
end
section
/- '==' of arrays, leaf by leaf. -/
namespace Go.Sx
open Go Go.RowKit
section
variable {P : Program}
theorem eqItems_ok {d : Nat} {e : TypeId} {ks : List LK} (he : EqIn P d e ks) {xs ys : Array Value} {w : World} : ∀ (k i : Nat) (r : Bool), eqL (List.replicate k ks).flatten (xs.toList.drop (i * ks.length)) (ys.toList.drop (i * ks.length)) = some r →
   (Op.eqItems d e ks.length xs ys (List.range' i k)).run P w = .ok r w
 | 0, i, r, h => by
   have : r = true := by
     revert h
     rcases xs.toList.drop (i * ks.length) with _ | ⟨x, xs⟩ <;> rcases ys.toList.drop (i * ks.length) with _ | ⟨y, ys⟩ <;> intro h <;> simp [eqL] at h
     exact h
   subst this
   simp [Op.eqItems]
 | k + 1, i, r, h => by
   rw [List.replicate_succ, List.flatten_cons] at h
   obtain ⟨r1, r2, h1, h2, rfl, h4, h5⟩ := eqL_split ks _ _ _ _ h
   obtain ⟨g, hg, hg1, heq⟩ := he.agg
   have hx := run_part_of he hg hg1 h4 w
   have hy := run_part_of he hg hg1 h5 w
   rw [List.range'_succ, Op.eqItems]
   rw [Sem.run_bind, hx]
   simp only [Result.andThen]
   rw [Sem.run_bind, hy]
   simp only [Result.andThen]
   rw [Sem.run_bind, heq _ _ _ _ h1]
   simp only [Result.andThen]
   rw [List.drop_drop, List.drop_drop, ← Nat.succ_mul] at h2
   have ih := eqItems_ok (w := w) he k (i + 1) r2 h2
   cases r1
   · simp
   · simpa using ih
theorem EqIn.array {t e : TypeId} {d n : Nat} {ks : List LK} (hu : P.underlying t = some (.array n e)) (hi : (P.info? t).map (·.size) = some (List.replicate n ks).flatten.length) (he : EqIn P d e ks) : EqIn P (d + 1) t (List.replicate n ks).flatten := by
 obtain ⟨i, h1, h2⟩ : ∃ i, P.info? t = some i ∧ i.size = (List.replicate n ks).flatten.length := by cases hx : P.info? t with | none => rw [hx] at hi; cases hi | some i => rw [hx] at hi; exact ⟨i, rfl, by simpa using hi⟩
 refine ⟨by simp [Program.cellsOf, h1, h2], by rw [h1]; rfl, true, run_isAgg_of hu, fun h => (by cases h), fun xs ys r w hq => ?_⟩
 obtain ⟨ie, hie⟩ := Option.isSome_iff_exists.1 he.info
 simp only [valOf, if_true]
 rw [run_equalIn_array w d _ _ hu hie, he.size, List.range_eq_range']
 exact eqItems_ok he n 0 r (by simpa using hq)
theorem EqLaw.ofArr {t e : TypeId} {n : Nat} {ks : List LK} (hu : P.underlying t = some (.array n e)) (hg : P.eqGuardType P.depth t = false) (h : EqIn P 10000 t ks) : EqLaw P t ks := by
 intro xs ys r x y w he
 obtain ⟨g, hag, _, heq⟩ := h.agg
 have hgt : g = true := by
   have := run_isAgg_of hu w
   rw [hag w] at this
   simpa [isAggD] using this
 subst hgt
 have h1 := heq xs.toList ys.toList r w he
 simp only [valOf, if_true, Array.toArray_toList] at h1
 constructor
 · rw [Sem.run_bind, run_eqGuard_agg w .eql t x y xs ys hg]
   simp only [Result.andThen, binOp, Op.equal]
   rw [Sem.run_bind]
   show ((Op.equalIn 10000 t (.agg xs) (.agg ys)).run P w).andThen _ = _
   rw [h1]
   rfl
 · rw [Sem.run_bind, run_eqGuard_agg w .neq t x y xs ys hg]
   simp only [Result.andThen, binOp, Op.equal]
   rw [Sem.run_bind]
   show ((Op.equalIn 10000 t (.agg xs) (.agg ys)).run P w).andThen _ = _
   rw [h1]
   rfl
end
end Go.Sx
end
