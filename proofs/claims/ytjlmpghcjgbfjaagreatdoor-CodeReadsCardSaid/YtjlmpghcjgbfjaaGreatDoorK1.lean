/-
  A part of the proofs of this seat: the executor (one law an operation), the plain laws of code and its text, and the walks of the functions that are reached: Ex1 Ex2 Ex3 Ex4 Ex5 Ex6 Facts CodeSpec Cw1 Ex7.
-/
import Derived.WalkKit
import Derived.TacticsInMore
import Derived.LoopIn
import Derived.RangeFuncNested
import Derived.RangeFuncCalls
import Derived.OwnWalkIn
import Derived.Shelf.Abstract
import Derived.Laws.CopyRow
import Derived.Lib.SmallJoins
import Derived.KernelRfl
import Derived.OrdersIn
import Derived.Test.YtjlmpghcjgbfjaaGreatDoorProg
namespace Go.Proofs.YtjlmpghcjgbfjaaGreatDoor.Ex
open Go Go.RowKit
section
variable {α : Type} {a b : α} {l l' l'' : List α}
theorem mh1 : a ∈ a :: l := List.Mem.head _
theorem mt1 (h : a ∈ l) : a ∈ b :: l := List.Mem.tail _ h
theorem ma1 (h : a ∈ l) : a ∈ l' ++ l := List.mem_append_right _ h
theorem ln1 : List.Sublist [] l := List.nil_sublist _
theorem ls1 : List.Sublist ([] : List α) [] := List.Sublist.slnil
theorem lr1 : List.Sublist l l := List.Sublist.refl _
theorem lk1 (h : List.Sublist l l') : List.Sublist (a :: l) (a :: l') := h.cons_cons _
theorem la1 (h : List.Sublist l l') : List.Sublist l (l'' ++ l') := List.sublist_append_of_sublist_right h
end
def get : Nat → List (Nat × Value) → Option Value
 | _, [] => none
 | t, (u, v) :: T => bif Nat.beq t u then some v else get t T
def ev (T : List (Nat × Value)) : Operand → Option Value
 | .tmp t => get t T
 | .const v => some v
 | .global g => some (.pointer (some ⟨g, 0, none⟩))
 | .func f => some (.func (.func f) #[] #[])
structure Fr (N : Nat) (ds : List Deferred) (T : List (Nat × Value)) (a : Act) : Prop where
 size : a.tmps.size = N
 defers : a.defers = ds
 here : ∀ t v, get t T = some v → a.tmps[t]? = some v
theorem Fr.eval {N : Nat} {ds : List Deferred} {T : List (Nat × Value)} {a : Act} (h : Fr N ds T a) {x : Operand} {v : Value} (hx : ev T x = some v) : a.eval x = v := by
 cases x with
 | tmp t =>
  have := h.here t v hx
  simp only [Act.eval, Array.getD_eq_getD_getElem?, this, Option.getD_some]
 | const c => cases hx; rfl
 | global g => cases hx; rfl
 | func f => cases hx; rfl
theorem get_cons (t u : Nat) (v : Value) (T : List (Nat × Value)) : get t ((u, v) :: T) = if t = u then some v else get t T := by
 rw [get]
 by_cases h : t = u
 · subst h; simp
 · have : Nat.beq t u = false := by
    cases hb : Nat.beq t u
    · rfl
    · exact absurd (Nat.eq_of_beq_eq_true hb) h
   rw [this, if_neg h]; rfl
theorem Fr.put {N : Nat} {ds : List Deferred} {T : List (Nat × Value)} {a : Act} (h : Fr N ds T a) {d : Nat} (hd : d < N) (v : Value) : Fr N ds ((d, v) :: T) (a.put (some d) v) := by
 refine ⟨by simp [Act.put, h.size], by simp [Act.put, h.defers], ?_⟩
 intro t u hu
 rw [get_cons] at hu
 simp only [Act.put, Array.getElem?_setIfInBounds, h.size]
 by_cases e : t = d
 · subst e
   rw [if_pos rfl] at hu
   simp [hd, hu]
 · rw [if_neg e] at hu
   rw [if_neg (fun e' => e e'.symm)]
   exact h.here t u hu
theorem Fr.put_none {N : Nat} {ds : List Deferred} {T : List (Nat × Value)} {a : Act} (h : Fr N ds T a) (v : Value) : Fr N ds T (a.put none v) := h
/-- every pair of the first list is in the second -/
def Sub (T : List (Nat × Value)) : List (Nat × Value) → Prop
 | [] => True
 | (t, v) :: r => get t T = some v ∧ Sub T r
theorem Sub.mem {T : List (Nat × Value)} : ∀ {T' : List (Nat × Value)}, Sub T T' → ∀ t v, get t T' = some v → get t T = some v
 | [], _, t, v, h => by cases h
 | (u, x) :: r, hs, t, v, h => by
  rw [get_cons] at h
  by_cases e : t = u
  · subst e; rw [if_pos rfl] at h; cases h; exact hs.1
  · rw [if_neg e] at h; exact Sub.mem hs.2 t v h
theorem Fr.sub {N : Nat} {ds : List Deferred} {T T' : List (Nat × Value)} {a : Act} (h : Fr N ds T a) (hs : Sub T T') : Fr N ds T' a :=
 ⟨h.size, h.defers, fun t v hv => h.here t v (Sub.mem hs t v hv)⟩
theorem Fr.drop {N : Nat} {ds : List Deferred} {T : List (Nat × Value)} {p : Nat × Value} {a : Act} (h : Fr N ds (p :: T) a) (hn : get p.1 T = none) : Fr N ds T a :=
 ⟨h.size, h.defers, fun t v hv => h.here t v (by
  obtain ⟨u, x⟩ := p
  rw [get_cons]
  by_cases e : t = u
  · subst e; rw [hn] at hv; cases hv
  · rw [if_neg e]; exact hv)⟩
/-- the frame in which a call begins -/
def start : Nat → List Value → List (Nat × Value)
 | _, [] => []
 | k, v :: r => (k, v) :: start (k + 1) r
theorem get_start : ∀ (l : List Value) (k t : Nat) (v : Value), get t (start k l) = some v → k ≤ t ∧ l[t - k]? = some v
 | [], _, _, _, h => by cases h
 | x :: r, k, t, v, h => by
  rw [start, get_cons] at h
  by_cases e : t = k
  · subst e; rw [if_pos rfl] at h; simp [h]
  · rw [if_neg e] at h
    obtain ⟨h1, h2⟩ := get_start r (k + 1) t v h
    refine ⟨by omega, ?_⟩
    rw [show t - k = (t - (k + 1)) + 1 by omega]
    simpa using h2
theorem Fr.begin (args : List Value) (N : Nat) (h : args.length ≤ N) : Fr N [] (start 0 args) { tmps := args.toArray ++ Array.replicate (N - args.toArray.size) undef, defers := [] } := by
 refine ⟨by simp; omega, rfl, ?_⟩
 intro t v hv
 obtain ⟨_, h2⟩ := get_start args 0 t v hv
 simp only [Nat.sub_zero] at h2
 have hlt : t < args.length := by
  rcases Nat.lt_or_ge t args.length with h | h
  · exact h
  · rw [List.getElem?_eq_none h] at h2; cases h2
 rw [Array.getElem?_append_left (by simpa using hlt)]
 simpa using h2
/-- what a call knows of memory: below n0 all is as it was in w0; the blocks of L are its own, and hold what L says -/
structure St (n0 : Nat) (w0 : World) (L : List (Nat × Obj)) (w : World) : Prop where
 has : ∀ x ∈ L, w.heap[x.1]? = some x.2
 nodup : (L.map (·.1)).Nodup
 own : ∀ x ∈ L, n0 ≤ x.1
 below : Below n0 w0 w
 base : n0 ≤ w0.heap.size
theorem St.begin (w : World) : St w.heap.size w [] w :=
 ⟨by simp, by simp, by simp, Below.refl _ _, Nat.le_refl _⟩
theorem St.low {n0 : Nat} {w0 w : World} {L : List (Nat × Obj)} (H : St n0 w0 L w) : n0 ≤ w.heap.size := Nat.le_trans H.base H.below.size
theorem lt_of_heap {w : World} {b : Nat} {o : Obj} (h : w.heap[b]? = some o) : b < w.heap.size := by
 rcases Nat.lt_or_ge b w.heap.size with h' | h'
 · exact h'
 · rw [Array.getElem?_eq_none h'] at h; cases h
theorem St.alloc {n0 : Nat} {w0 w : World} {L : List (Nat × Obj)} (H : St n0 w0 L w) (o : Obj) : St n0 w0 ((w.heap.size, o) :: L) (w.alloc o) := by
 refine ⟨?_, ?_, ?_, H.below.alloc H.low o, H.base⟩
 · intro x hx
   rcases List.mem_cons.1 hx with rfl | hx
   · exact World.alloc_heap_new w o
   · have h1 := H.has x hx
     rw [Below.heap_alloc _ _ _ (lt_of_heap h1)]; exact h1
 · rw [List.map_cons, List.nodup_cons]
   refine ⟨?_, H.nodup⟩
   intro hm
   obtain ⟨x, hx, e⟩ := List.mem_map.1 hm
   have := lt_of_heap (H.has x hx)
   omega
 · intro x hx
   rcases List.mem_cons.1 hx with rfl | hx
   · exact H.low
   · exact H.own x hx
theorem St.drew {n0 : Nat} {w0 w : World} {L : List (Nat × Obj)} (H : St n0 w0 L w) : St n0 w0 L w.drew := ⟨H.has, H.nodup, H.own, H.below.drew, H.base⟩
/-- a call that has left all that was there as it was -/
theorem St.call {n0 : Nat} {w0 w w' : World} {L : List (Nat × Obj)} (H : St n0 w0 L w) (hb : Below w.heap.size w w') : St n0 w0 L w' :=
 ⟨fun x hx => (hb.block x.1 (lt_of_heap (H.has x hx))).trans (H.has x hx), H.nodup, H.own, H.below.trans (hb.mono H.low), H.base⟩
/-- such a call that hands back a block of its own -/
theorem St.callNew {n0 : Nat} {w0 w w' : World} {L : List (Nat × Obj)} {b : Nat} {o : Obj} (H : St n0 w0 L w) (hb : Below w.heap.size w w') (h1 : w.heap.size ≤ b) (h2 : w'.heap[b]? = some o) : St n0 w0 ((b, o) :: L) w' := by
 have H' := H.call hb
 refine ⟨?_, ?_, ?_, H'.below, H.base⟩
 · intro x hx
   rcases List.mem_cons.1 hx with rfl | hx
   · exact h2
   · exact H'.has x hx
 · rw [List.map_cons, List.nodup_cons]
   refine ⟨?_, H.nodup⟩
   intro hm
   obtain ⟨x, hx, e⟩ := List.mem_map.1 hm
   have := lt_of_heap (H.has x hx)
   omega
 · intro x hx
   rcases List.mem_cons.1 hx with rfl | hx
   · exact Nat.le_trans H.low h1
   · exact H.own x hx
/-- a turn of one own block: the list with that block turned -/
inductive Upd (b : Nat) (o o' : Obj) : List (Nat × Obj) → List (Nat × Obj) → Prop
 | here {L : List (Nat × Obj)} : Upd b o o' ((b, o) :: L) ((b, o') :: L)
 | there {x : Nat × Obj} {L L' : List (Nat × Obj)} (h : Upd b o o' L L') : Upd b o o' (x :: L) (x :: L')
theorem Upd.mem {b : Nat} {o o' : Obj} : ∀ {L L' : List (Nat × Obj)}, Upd b o o' L L' → (b, o) ∈ L ∧ L'.map (·.1) = L.map (·.1) ∧ (∀ x ∈ L', x = (b, o') ∨ x ∈ L) ∧ ((L.map (·.1)).Nodup → ∀ x ∈ L', x.1 = b → x = (b, o'))
 | _, _, .here => by
  refine ⟨by simp, by simp, ?_, ?_⟩
  · intro x hx
    rcases List.mem_cons.1 hx with h | h
    · exact .inl h
    · exact .inr (by simp [h])
  · intro hn x hx e
    rcases List.mem_cons.1 hx with h | h
    · exact h
    · rw [List.map_cons, List.nodup_cons] at hn
      exact absurd (List.mem_map.2 ⟨x, h, e⟩) hn.1
 | _, _, .there h => by
  obtain ⟨h1, h2, h3, h4⟩ := Upd.mem h
  refine ⟨by simp [h1], by simp [h2], ?_, ?_⟩
  · intro x hx
    rcases List.mem_cons.1 hx with hx | hx
    · exact .inr (by simp [hx])
    · rcases h3 x hx with hx | hx
      · exact .inl hx
      · exact .inr (by simp [hx])
  · intro hn x hx e
    rw [List.map_cons, List.nodup_cons] at hn
    rcases List.mem_cons.1 hx with hx | hx
    · subst hx
      exact absurd (List.mem_map.2 ⟨_, h1, e.symm⟩) hn.1
    · exact h4 hn.2 x hx e
/-- the world with one block turned -/
theorem St.turn {n0 : Nat} {w0 w w' : World} {L L' : List (Nat × Obj)} {b : Nat} {o o' : Obj} (H : St n0 w0 L w) (hu : Upd b o o' L L') (hos : w'.os = w.os) (ht : w'.tape = w.tape) (hout : w'.output = w.output)
 (hs : w'.heap.size = w.heap.size) (hb : w'.heap[b]? = some o') (hother : ∀ k, k ≠ b → w'.heap[k]? = w.heap[k]?) : St n0 w0 L' w' := by
 obtain ⟨h1, h2, h3, h4⟩ := hu.mem
 refine ⟨?_, by rw [h2]; exact H.nodup, ?_, ?_, H.base⟩
 · intro x hx
   by_cases e : x.1 = b
   · have := h4 H.nodup x hx e
     subst this; exact hb
   · rw [hother _ e]
     rcases h3 x hx with rfl | h
     · exact absurd rfl e
     · exact H.has x h
 · intro x hx
   have : x.1 ∈ L.map (·.1) := by rw [← h2]; exact List.mem_map.2 ⟨x, hx, rfl⟩
   obtain ⟨y, hy, e⟩ := List.mem_map.1 this
   rw [← e]; exact H.own y hy
 · refine H.below.trans ⟨hos, ht, hout, by omega, fun k hk => ?_⟩
   refine hother k ?_
   have := H.own _ h1
   intro e; subst e; exact absurd hk (by simpa using this)
theorem St.mem {n0 : Nat} {w0 w : World} {L : List (Nat × Obj)} {b : Nat} {o : Obj} (H : St n0 w0 L w) (hm : (b, o) ∈ L) : w.heap[b]? = some o := H.has _ hm
/-- blocks may be forgotten -/
theorem St.sub {n0 : Nat} {w0 w : World} {L L' : List (Nat × Obj)} (H : St n0 w0 L w) (hs : L'.Sublist L) : St n0 w0 L' w :=
 ⟨fun x hx => H.has x (hs.subset hx), List.Sublist.nodup (hs.map _) H.nodup, fun x hx => H.own x (hs.subset hx), H.below, H.base⟩
theorem St.perm {n0 : Nat} {w0 w : World} {L L' : List (Nat × Obj)} (H : St n0 w0 L w) (hp : L'.Perm L) : St n0 w0 L' w :=
 ⟨fun x hx => H.has x (hp.mem_iff.1 hx), (hp.map _).nodup_iff.2 H.nodup, fun x hx => H.own x (hp.mem_iff.1 hx), H.below, H.base⟩
/-- the end of a call: below the heap of its beginning nothing has turned -/
theorem St.done {w0 w : World} {L : List (Nat × Obj)} (H : St w0.heap.size w0 L w) : Below w0.heap.size w0 w := H.below
/-- a cell of an older block -/
theorem St.cell {n0 : Nat} {w0 w : World} {L : List (Nat × Obj)} (H : St n0 w0 L w) {p : Addr} (hp : p.block < n0) : w.cell? p = w0.cell? p := H.below.cell hp
end Go.Proofs.YtjlmpghcjgbfjaaGreatDoor.Ex
namespace Go.Proofs.YtjlmpghcjgbfjaaGreatDoor.Ex
open Go Go.RowKit
def Fd (F : Fence) : Prop := F = { Fence.wide with round := F.round }
theorem Fd.wide : Fd Fence.wide := rfl
theorem Fd.inRound (l : Nat) : Fd (Fence.wide.inRound l) := rfl
theorem Fd.fn {F : Fence} (h : Fd F) (f : FuncId) : F.fn f := by rw [h]; trivial
theorem Fd.depth {F : Fence} (h : Fd F) : F.depth = none := by rw [h]; rfl
theorem Fd.calls {F : Fence} (h : Fd F) {n : Nat} {P : Program} {f : FuncId} {args : Array Value} {w : World} {R : Ending → World → Prop} (c : Calls P f args w R) : CallsIn F n P f args w R := by
 cases hr : F.round with
 | none =>
  have : F = Fence.wide := by rw [h, hr]; rfl
  rw [this]; exact callsIn_wide.2 c
 | some l =>
  have : F = Fence.wide.inRound l := by rw [h, hr]; rfl
  rw [this]; exact CallsIn.inRound l (callsIn_wide.2 c)
def nth {α : Type} : List α → Nat → Option α
 | [], _ => none
 | x :: _, 0 => some x
 | _ :: l, n + 1 => nth l n
theorem nth_eq {α : Type} : ∀ (l : List α) (n : Nat), nth l n = l[n]?
 | [], _ => rfl
 | _ :: _, 0 => rfl
 | _ :: l, n + 1 => by rw [nth, nth_eq l n]; simp
def dstOf (l : List Oper) (j : Nat) : Option Tmp := match nth l j with
 | some o => o.dst
 | none => none
def guardOf (T : List (Nat × Value)) (ops : Array Oper) : Option (Nat × Bool) → Option Bool
 | none => some true
 | some (j, want) => match dstOf ops.toList j with
  | some t => match get t T with
   | some (.bool b) => some (b == want)
   | _ => none
  | none => none
section
variable {F : Fence} {n : Nat} {P : Program} {ops : Array Oper} {Q : Exit → Act → World → Prop} {a : Act} {w : World} {rest : List Oper}
variable {N : Nat} {ds : List Deferred} {T : List (Nat × Value)} {n0 : Nat} {w0 : World} {L L' : List (Nat × Obj)}
variable {ty : TypeId} {ps : String} {af : Array Edge} {g : Option (Nat × Bool)} {dst : Option Tmp} {d : Nat} {op : Op}
theorem wanted_of (h : Fr N ds T a) {b : Bool} (hg : guardOf T ops g = some b) : Region.wanted ⟨dst, op, ty, ps, af, g⟩ (yielded ops a.tmps) = b := by
 cases g with
 | none => cases hg; rfl
 | some p =>
  obtain ⟨j, want⟩ := p
  simp only [guardOf] at hg
  have hdst : dstOf ops.toList j = (ops[j]?).bind (·.dst) := by
   unfold dstOf
   rw [nth_eq, Array.getElem?_toList]
   cases ops[j]? <;> rfl
  rw [hdst] at hg
  cases hj : (ops[j]?).bind (·.dst) with
  | none => rw [hj] at hg; cases hg
  | some t =>
   rw [hj] at hg
   dsimp only at hg
   cases ht : get t T with
   | none => rw [ht] at hg; cases hg
   | some v =>
    rw [ht] at hg
    cases v with
    | bool x =>
     cases hg
     simp only [Region.wanted, yielded, hj, Option.bind_some, h.here t _ ht]
     cases x <;> cases want <;> rfl
    | _ => cases hg
/-- one operation that gives a value -/
theorem step (hF : Fd F) (h : Fr N ds T a) (hg : guardOf T ops g = some true) (hnd : ∀ c, op ≠ .defer c) {v : Value} {w' : World}
 (hr : (execOp a.eval ⟨dst, op, ty, ps, af, g⟩).run P w = .ok (.value v) w') (K : wpListIn F n P ops Q rest (a.put dst v) w') : wpListIn F n P ops Q (⟨dst, op, ty, ps, af, g⟩ :: rest) a w := by
 rw [wpListIn, if_pos (wanted_of h hg)]
 refine ⟨fun f _ => hF.fn f, ?_⟩
 rw [Oper.semAt_plain F _ _ hnd, hr]
 exact K
/-- one operation that gives none -/
theorem stepU (hF : Fd F) (h : Fr N ds T a) (hg : guardOf T ops g = some true) (hnd : ∀ c, op ≠ .defer c) {w' : World}
 (hr : (execOp a.eval ⟨none, op, ty, ps, af, g⟩).run P w = .ok .skip w') (K : wpListIn F n P ops Q rest a w') : wpListIn F n P ops Q (⟨none, op, ty, ps, af, g⟩ :: rest) a w := by
 rw [wpListIn, if_pos (wanted_of h hg)]
 refine ⟨fun f _ => hF.fn f, ?_⟩
 rw [Oper.semAt_plain F _ _ hnd, hr]
 exact K
theorem sK0 (hF : Fd F) (h : Fr N ds T a) (hg : guardOf T ops g = some false) (hd : d < N) (K : ∀ a', Fr N ds ((d, undef) :: T) a' → wpListIn F n P ops Q rest a' w) :
 wpListIn F n P ops Q (⟨some d, op, ty, ps, af, g⟩ :: rest) a w := by
 rw [wpListIn, if_neg (by rw [wanted_of h hg]; simp)]
 exact ⟨fun f _ => hF.fn f, K _ (h.put hd _)⟩
theorem sM0 (hF : Fd F) (h : Fr N ds T a) (hg : guardOf T ops g = some true) {x : Operand} {v : Value} (hx : ev T x = some v) (hd : d < N) (K : ∀ a', Fr N ds ((d, v) :: T) a' → wpListIn F n P ops Q rest a' w) :
 wpListIn F n P ops Q (⟨some d, .move x, ty, ps, af, g⟩ :: rest) a w :=
 step hF h hg (by simp) (by simp [execOp, h.eval hx]) (K _ (h.put hd v))
theorem sA0 (hF : Fd F) (h : Fr N ds T a) (hg : guardOf T ops g = some true) {x : Operand} {v : Value} (hx : ev T x = some v) (hd : d < N) (K : ∀ a', Fr N ds ((d, v) :: T) a' → wpListIn F n P ops Q rest a' w) :
 wpListIn F n P ops Q (⟨some d, .assign x, ty, ps, af, g⟩ :: rest) a w :=
 step hF h hg (by simp) (by simp [execOp, h.eval hx]) (K _ (h.put hd v))
theorem s_pick (hF : Fd F) (h : Fr N ds T a) (hg : guardOf T ops g = some true) {c x y : Operand} {b : Bool} {v : Value} (hc : ev T c = some (.bool b)) (hx : ev T (bif b then x else y) = some v) (hd : d < N)
 (K : ∀ a', Fr N ds ((d, v) :: T) a' → wpListIn F n P ops Q rest a' w) : wpListIn F n P ops Q (⟨some d, .pick c x y, ty, ps, af, g⟩ :: rest) a w :=
 step hF h hg (by simp) (by
  simp only [execOp, h.eval hc]
  cases b
  · simp only [cond_false] at hx; simp [asBool, h.eval hx]
  · simp only [cond_true] at hx; simp [asBool, h.eval hx]) (K _ (h.put hd v))
def zeroOf (P : Program) (t : TypeId) : Option Value := (P.info? t).bind (·.zero)
theorem run_zeroValue {t : TypeId} {z : Value} (hz : zeroOf P t = some z) (w : World) : (zeroValue t).run P w = .ok z w := by
 unfold zeroOf at hz
 cases hi : P.info? t with
 | none => rw [hi] at hz; cases hz
 | some i =>
  rw [hi] at hz
  simp only [Option.bind_some] at hz
  simp [zeroValue, typeInfo, hi, hz]
theorem run_newVar (t : TypeId) (v : Value) (w : World) : (newVar t v).run P w = .ok ⟨w.heap.size, 0, none⟩ (w.alloc (.cells v.cells t)) := by
 rfl
theorem s_alloc (hF : Fd F) (h : Fr N ds T a) (H : St n0 w0 L w) (hg : guardOf T ops g = some true) {E : TypeId} {z : Value} {cs : Array Value} (hz : zeroOf P E = some z) (hcs : z.cells = cs) (hd : d < N)
 (K : ∀ a' w' b, w.heap.size ≤ b → Fr N ds ((d, .pointer (some ⟨b, 0, none⟩)) :: T) a' → St n0 w0 ((b, .cells cs E (0, 0)) :: L) w' → wpListIn F n P ops Q rest a' w') :
 wpListIn F n P ops Q (⟨some d, .alloc E, ty, ps, af, g⟩ :: rest) a w :=
 step hF h hg (by simp) (v := .pointer (some ⟨w.heap.size, 0, none⟩)) (w' := w.alloc (.cells cs E)) (by
  simp [execOp, Instr.alloc, run_zeroValue hz, run_newVar, hcs]) (K _ _ _ (Nat.le_refl _) (h.put hd _) (H.alloc _))
theorem s_box (hF : Fd F) (h : Fr N ds T a) (H : St n0 w0 L w) (hg : guardOf T ops g = some true) {E : TypeId} {x : Operand} {v : Value} {cs : Array Value} (hx : ev T x = some v) (hcs : v.cells = cs) (hd : d < N)
 (K : ∀ a' w' b, w.heap.size ≤ b → Fr N ds ((d, .pointer (some ⟨b, 0, none⟩)) :: T) a' → St n0 w0 ((b, .cells cs E (0, 0)) :: L) w' → wpListIn F n P ops Q rest a' w') :
 wpListIn F n P ops Q (⟨some d, .box E x, ty, ps, af, g⟩ :: rest) a w :=
 step hF h hg (by simp) (v := .pointer (some ⟨w.heap.size, 0, none⟩)) (w' := w.alloc (.cells cs E)) (by
  simp [execOp, Instr.box, h.eval hx, run_newVar, hcs]) (K _ _ _ (Nat.le_refl _) (h.put hd _) (H.alloc _))
def plainTy (P : Program) (t : TypeId) : Bool := match P.underlying t with
 | some (.struct _) | some (.array _ _) => false
 | some _ => true
 | none => false
theorem run_isAgg_p {t : TypeId} (h : plainTy P t = true) (w : World) : (isAgg t).run P w = .ok false w := by
 unfold plainTy at h
 cases hu : P.underlying t with
 | none => rw [hu] at h; cases h
 | some dsc =>
  rw [hu] at h
  exact run_isAgg_plain hu (by cases dsc <;> simp_all) w
def aggTy (P : Program) (t : TypeId) (k : Nat) : Bool := (match P.underlying t with
 | some (.struct _) | some (.array _ _) => true
 | _ => false) && (match P.info? t with
 | some i => i.size == k
 | none => false)
theorem run_isAgg_a {t : TypeId} {k : Nat} (h : aggTy P t k = true) (w : World) : (isAgg t).run P w = .ok true w := by
 unfold aggTy at h
 simp only [Bool.and_eq_true] at h
 obtain ⟨h, _⟩ := h
 cases hu : P.underlying t with
 | none => rw [hu] at h; cases h
 | some dsc => cases dsc <;> simp_all [isAgg, run_underlying hu]
theorem run_sizeOf_a {t : TypeId} {k : Nat} (h : aggTy P t k = true) (w : World) : (sizeOf t).run P w = .ok k w := by
 unfold aggTy at h
 simp only [Bool.and_eq_true] at h
 obtain ⟨_, h⟩ := h
 cases hi : P.info? t with
 | none => rw [hi] at h; cases h
 | some i =>
  rw [hi] at h
  simp [sizeOf, typeInfo, hi, eq_of_beq h]
theorem cell_of {w : World} {b off : Nat} {cs : Array Value} {E : TypeId} {fr : Nat × Nat} (hb : w.heap[b]? = some (.cells cs E fr)) : w.cell? ⟨b, off, none⟩ = cs[off]? := by
 simp [World.cell?, hb]
theorem run_load_cell {p : Addr} {v : Value} (hc : w.cell? p = some v) : (load p).run P w = .ok v w := by
 simp [load, Sem.run, hc]
/-- a load of one cell, wherever it lies -/
theorem s_loadW (hF : Fd F) (h : Fr N ds T a) (hg : guardOf T ops g = some true) {t : TypeId} {x : Operand} {p : Addr} {v : Value} (hx : ev T x = some (.pointer (some p))) (hp : plainTy P t = true)
 (hc : w.cell? p = some v) (hd : d < N) (K : ∀ a', Fr N ds ((d, v) :: T) a' → wpListIn F n P ops Q rest a' w) : wpListIn F n P ops Q (⟨some d, .load t x, ty, ps, af, g⟩ :: rest) a w :=
 step hF h hg (by simp) (v := v) (w' := w) (by
  simp [execOp, Instr.loadAt, Instr.sureAddr, h.eval hx, loadVar, run_isAgg_p hp, hc]) (K _ (h.put hd v))
theorem s_load (hF : Fd F) (h : Fr N ds T a) (H : St n0 w0 L w) (hg : guardOf T ops g = some true) {t : TypeId} {x : Operand} {b off : Nat} {cs : Array Value} {E : TypeId} {fr : Nat × Nat} {v : Value}
 (hx : ev T x = some (.pointer (some ⟨b, off, none⟩))) (hm : (b, Obj.cells cs E fr) ∈ L) (hp : plainTy P t = true) (hv : cs[off]? = some v) (hd : d < N)
 (K : ∀ a', Fr N ds ((d, v) :: T) a' → wpListIn F n P ops Q rest a' w) : wpListIn F n P ops Q (⟨some d, .load t x, ty, ps, af, g⟩ :: rest) a w :=
 s_loadW hF h hg hx hp ((cell_of (H.mem hm)).trans hv) hd K
/-- a load of an aggregate, wherever it lies -/
theorem s_loadAW (hF : Fd F) (h : Fr N ds T a) (hg : guardOf T ops g = some true) {t : TypeId} {x : Operand} {p : Addr} {vs : List Value} (hx : ev T x = some (.pointer (some p))) (hp : aggTy P t vs.length = true)
 (hc : ∀ (j : Nat) v, vs[j]? = some v → w.cell? (p.add j) = some v) (hd : d < N) (K : ∀ a', Fr N ds ((d, .agg vs.toArray) :: T) a' → wpListIn F n P ops Q rest a' w) :
 wpListIn F n P ops Q (⟨some d, .load t x, ty, ps, af, g⟩ :: rest) a w :=
 step hF h hg (by simp) (v := .agg vs.toArray) (w' := w) (by
  simp [execOp, Instr.loadAt, Instr.sureAddr, h.eval hx, loadVar, run_isAgg_a hp, run_sizeOf_a hp, run_loadCells_list w p vs hc]) (K _ (h.put hd _))
theorem add_mk (b off j : Nat) : (Addr.add ⟨b, off, none⟩ j) = ⟨b, off + j, none⟩ := by
 unfold Addr.add; split
 · rename_i h; subst h; rfl
 · rfl
/-- an aggregate that lies in an own block from a place on -/
theorem s_loadA (hF : Fd F) (h : Fr N ds T a) (H : St n0 w0 L w) (hg : guardOf T ops g = some true) {t : TypeId} {x : Operand} {b off : Nat} {cs vs : List Value} {E : TypeId} {fr : Nat × Nat}
 (hx : ev T x = some (.pointer (some ⟨b, off, none⟩))) (hm : (b, Obj.cells cs.toArray E fr) ∈ L) (hp : aggTy P t vs.length = true) (hv : (cs.drop off).take vs.length = vs) (hd : d < N)
 (K : ∀ a', Fr N ds ((d, .agg vs.toArray) :: T) a' → wpListIn F n P ops Q rest a' w) : wpListIn F n P ops Q (⟨some d, .load t x, ty, ps, af, g⟩ :: rest) a w :=
 s_loadAW hF h hg hx hp (fun j v hj => by
  rw [add_mk, cell_of (H.mem hm)]
  have hlt : j < vs.length := by
   rcases Nat.lt_or_ge j vs.length with h | h
   · exact h
   · rw [List.getElem?_eq_none h] at hj; cases hj
  have e : ((cs.drop off).take vs.length)[j]? = some v := by rw [hv]; exact hj
  rw [List.getElem?_take_of_lt hlt, List.getElem?_drop] at e
  simpa using e) hd K
theorem setCell_heap {w : World} {b off : Nat} {cs : Array Value} {E : TypeId} {fr : Nat × Nat} (hb : w.heap[b]? = some (.cells cs E fr)) (v : Value) :
 (w.setCell ⟨b, off, none⟩ v).heap[b]? = some (.cells (cs.setIfInBounds off v) E fr) := by
 simp only [World.setCell, Array.getElem?_modify, if_true, hb, Option.map_some]
 rfl
theorem run_store_cell {b off : Nat} {cs : Array Value} {E : TypeId} {v : Value} (hb : w.heap[b]? = some (.cells cs E (0, 0))) (ho : off < cs.size) (h1 : v.oneCell' = true) :
 (store ⟨b, off, none⟩ v).run P w = .ok () (w.setCell ⟨b, off, none⟩ v) := by
 have hc : w.cell? ⟨b, off, none⟩ = some cs[off] := by rw [cell_of hb]; exact Array.getElem?_eq_getElem ho
 have hf : w.frozen? ⟨b, off, none⟩ = false := by simp [World.frozen?, hb]
 cases v <;> first
  | (cases h1; done)
  | simp [store, Sem.run, hc, hf]
theorem cells_one {v : Value} (h1 : v.oneCell' = true) : v.cells = #[v] := by cases v <;> first | (cases h1; done) | rfl
def sizeIs (P : Program) (t : TypeId) (k : Nat) : Bool := match P.info? t with
 | some i => i.size == k
 | none => false
theorem run_sizeOf {t : TypeId} {k : Nat} (h : sizeIs P t k = true) (w : World) : (sizeOf t).run P w = .ok k w := by
 unfold sizeIs at h
 cases hi : P.info? t with
 | none => rw [hi] at h; cases h
 | some i => rw [hi] at h; simp [sizeOf, typeInfo, hi, eq_of_beq h]
theorem s_store (hF : Fd F) (h : Fr N ds T a) (H : St n0 w0 L w) (hg : guardOf T ops g = some true) {t : TypeId} {x y : Operand} {b off : Nat} {cs cs' : Array Value} {E : TypeId} {v : Value}
 (hx : ev T x = some (.pointer (some ⟨b, off, none⟩))) (hy : ev T y = some v) (h1 : v.oneCell' = true) (hs : sizeIs P t 1 = true) (hcs : cs.setIfInBounds off v = cs') (ho : off < cs.size)
 (hu : Upd b (.cells cs E (0, 0)) (.cells cs' E (0, 0)) L L') (K : ∀ w', St n0 w0 L' w' → wpListIn F n P ops Q rest a w') :
 wpListIn F n P ops Q (⟨none, .store t x y, ty, ps, af, g⟩ :: rest) a w := by
 have hb := H.mem hu.mem.1
 refine stepU hF h hg (by simp) (w' := w.setCell ⟨b, off, none⟩ v) ?_ (K _ ?_)
 · have hc := cells_one h1
   simp [execOp, Instr.storeAt, Instr.sureAddr, h.eval hx, h.eval hy, storeVar, run_sizeOf hs, hc, storeCells, add_mk, run_store_cell hb ho h1]
 · refine H.turn hu rfl rfl rfl (by simp [World.setCell]) ?_ (fun k hk => Below.heap_setCell _ _ _ _ hk)
   rw [setCell_heap hb, hcs]
/-- a whole aggregate, or a part of a block -/
theorem s_storeA (hF : Fd F) (h : Fr N ds T a) (H : St n0 w0 L w) (hg : guardOf T ops g = some true) {t : TypeId} {x y : Operand} {b off : Nat} {cs cs' vs : List Value} {E : TypeId}
 (hx : ev T x = some (.pointer (some ⟨b, off, none⟩))) (hy : ev T y = some (.agg vs.toArray)) (h1 : vs.all (·.oneCell') = true) (hs : sizeIs P t vs.length = true)
 (hcs : cs.take off ++ vs ++ cs.drop (off + vs.length) = cs') (ho : off + vs.length ≤ cs.length)
 (hu : Upd b (.cells cs.toArray E (0, 0)) (.cells cs'.toArray E (0, 0)) L L') (K : ∀ w', St n0 w0 L' w' → wpListIn F n P ops Q rest a w') :
 wpListIn F n P ops Q (⟨none, .store t x y, ty, ps, af, g⟩ :: rest) a w := by
 have hb := H.mem hu.mem.1
 have hst := run_storeCells_at (P := P) b off E vs 0 cs.toArray w hb (by simpa using ho) (fun v hv => List.all_eq_true.1 h1 v hv)
 simp only [Nat.add_zero, hcs] at hst
 refine stepU hF h hg (by simp) (w' := w.setRow b cs'.toArray) ?_ (K _ ?_)
 · simp [execOp, Instr.storeAt, Instr.sureAddr, h.eval hx, h.eval hy, storeVar, run_sizeOf hs, Value.cells, hst]
 · exact H.turn hu rfl rfl rfl (by simp) (setRow_heap w b _ _ _ _ hb) (fun k hk => setRow_other w b k _ hk)
end
end Go.Proofs.YtjlmpghcjgbfjaaGreatDoor.Ex
namespace Go.Proofs.YtjlmpghcjgbfjaaGreatDoor.Ex
open Go Go.RowKit
/-- a text of bytes -/
abbrev str (l : List UInt8) : Value := .string ⟨l.toArray⟩
/-- an int -/
abbrev int (n : Int) : Value := .int .i64 n
/-- a byte -/
abbrev byt (b : UInt8) : Value := .int .u8 (b.toNat : Int)
/-- a pointer -/
abbrev ptr (b off : Nat) : Value := .pointer (some ⟨b, off, none⟩)
class ZeroOf (P : Program) (t : TypeId) (cs : outParam (List Value)) : Prop where
 out : ∃ z, zeroOf P t = some z ∧ z.cells = cs.toArray
class PlainTy (P : Program) (t : TypeId) : Prop where
 out : plainTy P t = true
class AggTy (P : Program) (t : TypeId) (k : outParam Nat) : Prop where
 out : aggTy P t k = true
class SizeIs (P : Program) (t : TypeId) (k : outParam Nat) : Prop where
 out : sizeIs P t k = true
def fieldOff (P : Program) (s f k : Nat) : Bool := match P.underlying s with
 | some (.struct fs) => match fs[f]? with
  | some x => x.offset == k && (match P.info? x.type with | some i => i.size != 0 | none => false)
  | none => false
 | _ => false
class FieldOff (P : Program) (s f : Nat) (k : outParam Nat) : Prop where
 out : fieldOff P s f k = true
def fieldTy (P : Program) (s f t k : Nat) : Bool := match P.underlying s with
 | some (.struct fs) => match fs[f]? with
  | some x => x.offset == k && x.type == t
  | none => false
 | _ => false
class FieldTy (P : Program) (s f : Nat) (t k : outParam Nat) : Prop where
 out : fieldTy P s f t k = true
class SliceTy (P : Program) (t : TypeId) (e : outParam TypeId) : Prop where
 out : P.underlying t = some (.slice e)
class ArrTy (P : Program) (t : TypeId) (len : outParam Nat) (e : outParam TypeId) : Prop where
 out : P.underlying t = some (.array len e)
class StrTy (P : Program) (t : TypeId) : Prop where
 out : P.underlying t = some .string
class IntTy (P : Program) (t : TypeId) (k : outParam IntKind) : Prop where
 out : P.underlying t = some (.int k)
class BoolTy (P : Program) (t : TypeId) : Prop where
 out : P.underlying t = some .bool
class FuncTy (P : Program) (t : TypeId) : Prop where
 out : ∃ x y z, P.underlying t = some (.func x y z)
class Ent (P : Program) (f : FuncId) : Prop where
 out : Go.Proofs.Enters P f
section
variable {F : Fence} {n : Nat} {P : Program} {ops : Array Oper} {Q : Exit → Act → World → Prop} {a : Act} {w : World} {rest : List Oper}
variable {N : Nat} {ds : List Deferred} {T : List (Nat × Value)} {n0 : Nat} {w0 : World} {L L' : List (Nat × Obj)}
variable {ty : TypeId} {ps : String} {af : Array Edge} {g : Option (Nat × Bool)} {dst : Option Tmp} {d : Nat} {op : Op}
theorem i_alloc (hF : Fd F) (h : Fr N ds T a) (H : St n0 w0 L w) (hg : guardOf T ops g = some true) {E : TypeId} {cs : List Value} [hz : ZeroOf P E cs] (hd : d < N)
 (K : ∀ a' w' b, w.heap.size ≤ b → Fr N ds ((d, ptr b 0) :: T) a' → St n0 w0 ((b, .cells cs.toArray E (0, 0)) :: L) w' → wpListIn F n P ops Q rest a' w') :
 wpListIn F n P ops Q (⟨some d, .alloc E, ty, ps, af, g⟩ :: rest) a w := by
 obtain ⟨z, h1, h2⟩ := hz.out
 exact s_alloc hF h H hg h1 h2 hd K
theorem iL0 (hF : Fd F) (h : Fr N ds T a) (H : St n0 w0 L w) (hg : guardOf T ops g = some true) {t : TypeId} [hp : PlainTy P t] {x : Operand} {b off : Nat} {cs : List Value} {E : TypeId} {fr : Nat × Nat} {v : Value}
 (hx : ev T x = some (ptr b off)) (hm : (b, Obj.cells cs.toArray E fr) ∈ L) (hv : cs[off]? = some v) (hd : d < N)
 (K : ∀ a', Fr N ds ((d, v) :: T) a' → wpListIn F n P ops Q rest a' w) : wpListIn F n P ops Q (⟨some d, .load t x, ty, ps, af, g⟩ :: rest) a w :=
 s_load hF h H hg hx hm hp.out (by simpa using hv) hd K
theorem i_loadW (hF : Fd F) (h : Fr N ds T a) (hg : guardOf T ops g = some true) {t : TypeId} [hp : PlainTy P t] {x : Operand} {p : Addr} {v : Value} (hx : ev T x = some (.pointer (some p)))
 (hc : w.cell? p = some v) (hd : d < N) (K : ∀ a', Fr N ds ((d, v) :: T) a' → wpListIn F n P ops Q rest a' w) : wpListIn F n P ops Q (⟨some d, .load t x, ty, ps, af, g⟩ :: rest) a w :=
 s_loadW hF h hg hx hp.out hc hd K
theorem i_loadA (hF : Fd F) (h : Fr N ds T a) (H : St n0 w0 L w) (hg : guardOf T ops g = some true) {t : TypeId} {k : Nat} [hp : AggTy P t k] {x : Operand} {b off : Nat} {cs vs : List Value} {E : TypeId} {fr : Nat × Nat}
 (hx : ev T x = some (ptr b off)) (hm : (b, Obj.cells cs.toArray E fr) ∈ L) (hv : (cs.drop off).take k = vs) (hl : vs.length = k) (hd : d < N)
 (K : ∀ a', Fr N ds ((d, .agg vs.toArray) :: T) a' → wpListIn F n P ops Q rest a' w) : wpListIn F n P ops Q (⟨some d, .load t x, ty, ps, af, g⟩ :: rest) a w :=
 s_loadA hF h H hg hx hm (by rw [hl]; exact hp.out) (by rw [hl]; exact hv) hd K
theorem i_store (hF : Fd F) (h : Fr N ds T a) (H : St n0 w0 L w) (hg : guardOf T ops g = some true) {t : TypeId} [hs : SizeIs P t 1] {x y : Operand} {b off : Nat} {cs cs' : List Value} {E : TypeId} {v : Value}
 (hx : ev T x = some (ptr b off)) (hy : ev T y = some v) (h1 : v.oneCell' = true) (hu : Upd b (.cells cs.toArray E (0, 0)) (.cells cs'.toArray E (0, 0)) L L') (hcs : cs.set off v = cs') (ho : off < cs.length)
 (K : ∀ w', St n0 w0 L' w' → wpListIn F n P ops Q rest a w') : wpListIn F n P ops Q (⟨none, .store t x y, ty, ps, af, g⟩ :: rest) a w :=
 s_store hF h H hg hx hy h1 hs.out (by simp [hcs]) (by simpa using ho) hu K
theorem i_storeA (hF : Fd F) (h : Fr N ds T a) (H : St n0 w0 L w) (hg : guardOf T ops g = some true) {t : TypeId} {k : Nat} [hs : AggTy P t k] {x y : Operand} {b off : Nat} {cs cs' vs : List Value} {E : TypeId}
 (hx : ev T x = some (ptr b off)) (hy : ev T y = some (.agg vs.toArray)) (hl : vs.length = k) (h1 : vs.all (·.oneCell') = true)
 (hu : Upd b (.cells cs.toArray E (0, 0)) (.cells cs'.toArray E (0, 0)) L L') (hcs : cs.take off ++ vs ++ cs.drop (off + k) = cs') (ho : off + k ≤ cs.length)
 (K : ∀ w', St n0 w0 L' w' → wpListIn F n P ops Q rest a w') : wpListIn F n P ops Q (⟨none, .store t x y, ty, ps, af, g⟩ :: rest) a w := by
 subst hl
 refine s_storeA hF h H hg hx hy h1 ?_ hcs ho hu K
 have := hs.out
 unfold aggTy at this
 simp only [Bool.and_eq_true] at this
 exact this.2
/-- one element of a list turned, a part of a list: told by their shapes -/
inductive SetAt : List Value → Nat → Value → List Value → Prop
 | zero {x v : Value} {l : List Value} : SetAt (x :: l) 0 v (v :: l)
 | succ {x v : Value} {l l' : List Value} {k : Nat} (h : SetAt l k v l') : SetAt (x :: l) (k + 1) v (x :: l')
theorem SetAt.eq {l l' : List Value} {k : Nat} {v : Value} (h : SetAt l k v l') : l.set k v = l' ∧ k < l.length := by
 induction h with
 | zero => simp
 | succ _ ih => simp [ih.1, ih.2]
inductive Seg : List Value → Nat → Nat → List Value → Prop
 | nil {l : List Value} : Seg l 0 0 []
 | take {x : Value} {l r : List Value} {k : Nat} (h : Seg l 0 k r) : Seg (x :: l) 0 (k + 1) (x :: r)
 | skip {x : Value} {l r : List Value} {o k : Nat} (h : Seg l o k r) : Seg (x :: l) (o + 1) k r
theorem Seg.eq {l r : List Value} {o k : Nat} (h : Seg l o k r) : (l.drop o).take k = r ∧ r.length = k := by
 induction h with
 | nil => simp
 | take _ ih => simp [ih.2]; simpa using ih.1
 | skip _ ih => simpa using ih
inductive PutAt : List Value → Nat → List Value → List Value → Prop
 | nil {l : List Value} : PutAt l 0 [] l
 | put {x v : Value} {l vs r : List Value} (h : PutAt l 0 vs r) : PutAt (x :: l) 0 (v :: vs) (v :: r)
 | skip {x : Value} {l vs r : List Value} {o : Nat} (h : PutAt l o vs r) : PutAt (x :: l) (o + 1) vs (x :: r)
theorem PutAt.eq {l vs r : List Value} {o : Nat} (h : PutAt l o vs r) : l.take o ++ vs ++ l.drop (o + vs.length) = r ∧ o + vs.length ≤ l.length := by
 induction h with
 | nil => simp
 | put _ ih => simp at ih ⊢; exact ⟨ih.1, by omega⟩
 | @skip x l vs r o _ ih =>
  simp only [List.take_succ_cons, List.cons_append, List.length_cons]
  rw [show o + 1 + vs.length = (o + vs.length) + 1 by omega, List.drop_succ_cons]
  simp only [List.append_assoc] at ih ⊢
  exact ⟨by rw [ih.1], by omega⟩
theorem j_loadA (hF : Fd F) (h : Fr N ds T a) (H : St n0 w0 L w) (hg : guardOf T ops g = some true) {t : TypeId} {k : Nat} [hp : AggTy P t k] {x : Operand} {b off : Nat} {cs vs : List Value} {E : TypeId} {fr : Nat × Nat}
 (hx : ev T x = some (ptr b off)) (hm : (b, Obj.cells cs.toArray E fr) ∈ L) (hv : Seg cs off k vs) (hd : d < N)
 (K : ∀ a', Fr N ds ((d, .agg vs.toArray) :: T) a' → wpListIn F n P ops Q rest a' w) : wpListIn F n P ops Q (⟨some d, .load t x, ty, ps, af, g⟩ :: rest) a w :=
 i_loadA hF h H hg hx hm hv.eq.1 hv.eq.2 hd K
theorem jS0 (hF : Fd F) (h : Fr N ds T a) (H : St n0 w0 L w) (hg : guardOf T ops g = some true) {t : TypeId} [hs : SizeIs P t 1] {x y : Operand} {b off : Nat} {cs cs' : List Value} {E : TypeId} {v : Value}
 (hx : ev T x = some (ptr b off)) (hy : ev T y = some v) (h1 : v.oneCell' = true) (hu : Upd b (.cells cs.toArray E (0, 0)) (.cells cs'.toArray E (0, 0)) L L') (hcs : SetAt cs off v cs')
 (K : ∀ w', St n0 w0 L' w' → wpListIn F n P ops Q rest a w') : wpListIn F n P ops Q (⟨none, .store t x y, ty, ps, af, g⟩ :: rest) a w :=
 i_store hF h H hg hx hy h1 hu hcs.eq.1 hcs.eq.2 K
theorem j_storeA (hF : Fd F) (h : Fr N ds T a) (H : St n0 w0 L w) (hg : guardOf T ops g = some true) {t : TypeId} {k : Nat} [hs : AggTy P t k] {x y : Operand} {b off : Nat} {cs cs' vs : List Value} {E : TypeId}
 (hx : ev T x = some (ptr b off)) (hy : ev T y = some (.agg vs.toArray)) (hl : vs.length = k) (h1 : vs.all (·.oneCell') = true)
 (hu : Upd b (.cells cs.toArray E (0, 0)) (.cells cs'.toArray E (0, 0)) L L') (hcs : PutAt cs off vs cs')
 (K : ∀ w', St n0 w0 L' w' → wpListIn F n P ops Q rest a w') : wpListIn F n P ops Q (⟨none, .store t x y, ty, ps, af, g⟩ :: rest) a w := by
 subst hl
 exact i_storeA hF h H hg hx hy rfl h1 hu hcs.eq.1 hcs.eq.2 K
theorem i_box1 (hF : Fd F) (h : Fr N ds T a) (H : St n0 w0 L w) (hg : guardOf T ops g = some true) {E : TypeId} {x : Operand} {v : Value} (hx : ev T x = some v) (h1 : v.oneCell' = true) (hd : d < N)
 (K : ∀ a' w' b, w.heap.size ≤ b → Fr N ds ((d, ptr b 0) :: T) a' → St n0 w0 ((b, .cells [v].toArray E (0, 0)) :: L) w' → wpListIn F n P ops Q rest a' w') :
 wpListIn F n P ops Q (⟨some d, .box E x, ty, ps, af, g⟩ :: rest) a w := s_box hF h H hg hx (cells_one h1) hd K
theorem i_boxA (hF : Fd F) (h : Fr N ds T a) (H : St n0 w0 L w) (hg : guardOf T ops g = some true) {E : TypeId} {x : Operand} {vs : List Value} (hx : ev T x = some (.agg vs.toArray)) (hd : d < N)
 (K : ∀ a' w' b, w.heap.size ≤ b → Fr N ds ((d, ptr b 0) :: T) a' → St n0 w0 ((b, .cells vs.toArray E (0, 0)) :: L) w' → wpListIn F n P ops Q rest a' w') :
 wpListIn F n P ops Q (⟨some d, .box E x, ty, ps, af, g⟩ :: rest) a w := s_box hF h H hg hx rfl hd K
theorem Upd.app {b : Nat} {o o' : Obj} {R L L' : List (Nat × Obj)} (h : Upd b o o' L L') : Upd b o o' (R ++ L) (R ++ L') := by
 induction R with
 | nil => exact h
 | cons x r ih => exact .there ih
theorem iFa0 (hF : Fd F) (h : Fr N ds T a) (hg : guardOf T ops g = some true) {s f k : Nat} [hf : FieldOff P s f k] {x : Operand} {b off off' : Nat} (hx : ev T x = some (ptr b off)) (ho : off + k = off') (hd : d < N)
 (K : ∀ a', Fr N ds ((d, ptr b off') :: T) a' → wpListIn F n P ops Q rest a' w) : wpListIn F n P ops Q (⟨some d, .fieldAddr s x f, ty, ps, af, g⟩ :: rest) a w :=
 step hF h hg (by simp) (v := ptr b off') (w' := w) (by
  have := hf.out
  unfold fieldOff at this
  cases hu : P.underlying s with
  | none => rw [hu] at this; cases this
  | some dsc =>
   rw [hu] at this
   cases dsc with
   | struct fs =>
    dsimp only at this
    cases hfs : fs[f]? with
    | none => rw [hfs] at this; cases this
    | some fd =>
     rw [hfs] at this
     simp only [Bool.and_eq_true] at this
     obtain ⟨h1, h2⟩ := this
     cases hi : P.info? fd.type with
     | none => rw [hi] at h2; cases h2
     | some i =>
      rw [hi] at h2
      have h1 := eq_of_beq h1
      have h2 : ¬ i.size = 0 := by simpa using h2
      simp [execOp, Instr.fieldAt, run_underlying hu, hfs, Instr.sureAddr, h.eval hx, fieldPlace, sizeOf, typeInfo, hi, h2, add_mk, h1, ho]
   | _ => cases this) (K _ (h.put hd _))
theorem i_field (hF : Fd F) (h : Fr N ds T a) (hg : guardOf T ops g = some true) {s f t k : Nat} [hf : FieldTy P s f t k] [hp : PlainTy P t] {x : Operand} {cs : List Value} {v : Value} (hx : ev T x = some (.agg cs.toArray)) (hv : cs[k]? = some v) (hd : d < N)
 (K : ∀ a', Fr N ds ((d, v) :: T) a' → wpListIn F n P ops Q rest a' w) : wpListIn F n P ops Q (⟨some d, .field s x f, ty, ps, af, g⟩ :: rest) a w :=
 step hF h hg (by simp) (v := v) (w' := w) (by
  have := hf.out
  unfold fieldTy at this
  cases hu : P.underlying s with
  | none => rw [hu] at this; cases this
  | some dsc =>
   rw [hu] at this
   cases dsc with
   | struct fs =>
    dsimp only at this
    cases hfs : fs[f]? with
    | none => rw [hfs] at this; cases this
    | some fd =>
     rw [hfs] at this
     simp only [Bool.and_eq_true, beq_iff_eq] at this
     obtain ⟨h1, h2⟩ := this
     simp [execOp, Instr.field, run_underlying hu, hfs, h.eval hx, asAgg, part, h2, run_isAgg_p hp.out, h1, hv]
   | _ => cases this) (K _ (h.put hd _))
theorem i_indexAddr (hF : Fd F) (h : Fr N ds T a) (hg : guardOf T ops g = some true) {t e sz : Nat} [hs : SliceTy P t e] [hz : SizeIs P e sz] {x y : Operand} {b off len cap off' j : Nat} {k : IntKind}
 (hx : ev T x = some (.slice (some ⟨b, off, none⟩) len cap)) (hy : ev T y = some (.int k (j : Int))) (hj : j < len) (ho : off + j * sz = off') (hd : d < N)
 (K : ∀ a', Fr N ds ((d, ptr b off') :: T) a' → wpListIn F n P ops Q rest a' w) : wpListIn F n P ops Q (⟨some d, .indexAddr t x y, ty, ps, af, g⟩ :: rest) a w :=
 step hF h hg (by simp) (v := ptr b off') (w' := w) (by
  have h1 : (0 : Int) ≤ (j : Int) ∧ (j : Int) < (len : Int) := by omega
  simp [execOp, Instr.indexAt, asIntOf, h.eval hx, h.eval hy, run_underlying hs.out, run_sizeOf hz.out, add_mk, ho, hj]) (K _ (h.put hd _))
theorem i_indexAddrL (hF : Fd F) (h : Fr N ds T a) (hg : guardOf T ops g = some true) {t e sz : Nat} [hs : SliceTy P t e] [hz : SizeIs P e sz] {x y : Operand} {b off len cap : Nat} {k : IntKind} {z : Int}
 (hx : ev T x = some (.slice (some ⟨b, off, none⟩) len cap)) (hy : ev T y = some (.int k z)) (h0 : 0 ≤ z) (hj : z < len) (hd : d < N)
 (K : ∀ a', Fr N ds ((d, ptr b (off + z.toNat * sz)) :: T) a' → wpListIn F n P ops Q rest a' w) : wpListIn F n P ops Q (⟨some d, .indexAddr t x y, ty, ps, af, g⟩ :: rest) a w := by
 obtain ⟨j, rfl⟩ := Int.eq_ofNat_of_zero_le h0
 exact i_indexAddr hF h hg hx hy (by omega) (by simp) hd K
theorem i_indexArr (hF : Fd F) (h : Fr N ds T a) (hg : guardOf T ops g = some true) {t e sz m : Nat} [hs : ArrTy P t m e] [hz : AggTy P e sz] {x y : Operand} {j : Nat} {k : IntKind} {cs vs : List Value}
 (hx : ev T x = some (.agg cs.toArray)) (hy : ev T y = some (.int k (j : Int))) (hj : j < m) (hv : (cs.drop (j * sz)).take sz = vs) (hd : d < N)
 (K : ∀ a', Fr N ds ((d, .agg vs.toArray) :: T) a' → wpListIn F n P ops Q rest a' w) : wpListIn F n P ops Q (⟨some d, .index t x y, ty, ps, af, g⟩ :: rest) a w :=
 step hF h hg (by simp) (v := .agg vs.toArray) (w' := w) (by
  have h1 : (0 : Int) ≤ (j : Int) ∧ (j : Int) < (m : Int) := by omega
  simp [execOp, Instr.index, asIntOf, h.eval hx, h.eval hy, run_underlying hs.out, part, run_isAgg_a hz.out, run_sizeOf_a hz.out, hj, List.extract_eq_take_drop, Nat.add_sub_cancel_left, hv]) (K _ (h.put hd _))
theorem i_indexStr (hF : Fd F) (h : Fr N ds T a) (hg : guardOf T ops g = some true) {t : Nat} [hs : StrTy P t] {x y : Operand} {j : Nat} {k : IntKind} {l : List UInt8} {c : UInt8}
 (hx : ev T x = some (str l)) (hy : ev T y = some (.int k (j : Int))) (hv : l[j]? = some c) (hd : d < N)
 (K : ∀ a', Fr N ds ((d, byt c) :: T) a' → wpListIn F n P ops Q rest a' w) : wpListIn F n P ops Q (⟨some d, .index t x y, ty, ps, af, g⟩ :: rest) a w :=
 step hF h hg (by simp) (v := byt c) (w' := w) (by
  have e : (⟨l.toArray⟩ : ByteArray)[j]? = some c := by
   show (if h : j < (⟨l.toArray⟩ : ByteArray).size then some _ else none) = _
   have hlt : j < l.length := by
    rcases Nat.lt_or_ge j l.length with h | h
    · exact h
    · rw [List.getElem?_eq_none h] at hv; cases hv
   rw [dif_pos (show j < (⟨l.toArray⟩ : ByteArray).size from by show j < l.toArray.size; simpa using hlt)]
   rw [List.getElem?_eq_getElem hlt] at hv
   exact hv
  simp [execOp, Instr.index, asIntOf, h.eval hx, h.eval hy, run_underlying hs.out, e]) (K _ (h.put hd _))
theorem iX0 (hF : Fd F) (h : Fr N ds T a) (hg : guardOf T ops g = some true) {x : Operand} {i : Nat} {vs : List Value} {v : Value} (hx : ev T x = some (.tuple vs.toArray)) (hv : vs[i]? = some v) (hd : d < N)
 (K : ∀ a', Fr N ds ((d, v) :: T) a' → wpListIn F n P ops Q rest a' w) : wpListIn F n P ops Q (⟨some d, .extract x i, ty, ps, af, g⟩ :: rest) a w :=
 step hF h hg (by simp) (v := v) (w' := w) (by simp [execOp, Instr.extract, h.eval hx, hv]) (K _ (h.put hd _))
def cmpI : BinOp → Int → Int → Option Bool
 | .eql, x, y => some (x == y)
 | .neq, x, y => some (x != y)
 | .lss, x, y => some (decide (x < y))
 | .leq, x, y => some (decide (x ≤ y))
 | .gtr, x, y => some (decide (x > y))
 | .geq, x, y => some (decide (x ≥ y))
 | _, _, _ => none
theorem iC0 (hF : Fd F) (h : Fr N ds T a) (hg : guardOf T ops g = some true) {t t' : TypeId} {o : BinOp} {x y : Operand} {k : IntKind} {p q : Int} {r : Bool} (hx : ev T x = some (.int k p)) (hy : ev T y = some (.int k q))
 (hr : cmpI o p q = some r) (hd : d < N) (K : ∀ a', Fr N ds ((d, .bool r) :: T) a' → wpListIn F n P ops Q rest a' w) : wpListIn F n P ops Q (⟨some d, .binOp o t x y t', ty, ps, af, g⟩ :: rest) a w :=
 step hF h hg (by simp) (v := .bool r) (w' := w) (by
  cases o <;> simp only [cmpI, Option.some.injEq] at hr <;> first
   | (cases hr; done)
   | (subst hr; simp [execOp, h.eval hx, h.eval hy, eqGuard_at_int, binOp, Op.intCmp])) (K _ (h.put hd _))
theorem i_lss_t {p q : Int} (h : p < q) : cmpI .lss p q = some true := by simp [cmpI, h]
theorem i_lss_f {p q : Int} (h : ¬ p < q) : cmpI .lss p q = some false := by simp [cmpI]; omega
theorem i_leq_t {p q : Int} (h : p ≤ q) : cmpI .leq p q = some true := by simp [cmpI, h]
theorem i_leq_f {p q : Int} (h : ¬ p ≤ q) : cmpI .leq p q = some false := by simp [cmpI]; omega
theorem i_gtr_t {p q : Int} (h : q < p) : cmpI .gtr p q = some true := by simp [cmpI, h]
theorem i_gtr_f {p q : Int} (h : ¬ q < p) : cmpI .gtr p q = some false := by simp [cmpI]; omega
theorem i_geq_t {p q : Int} (h : q ≤ p) : cmpI .geq p q = some true := by simp [cmpI, h]
theorem i_geq_f {p q : Int} (h : ¬ q ≤ p) : cmpI .geq p q = some false := by simp [cmpI]; omega
theorem i_eql_t {p q : Int} (h : p = q) : cmpI .eql p q = some true := by simp [cmpI, h]
theorem i_eql_f {p q : Int} (h : ¬ p = q) : cmpI .eql p q = some false := by simp [cmpI, h]
theorem i_neq_t {p q : Int} (h : ¬ p = q) : cmpI .neq p q = some true := by simp [cmpI, h]
theorem i_neq_f {p q : Int} (h : p = q) : cmpI .neq p q = some false := by simp [cmpI, h]
def arI : BinOp → Int → Int → Option Int
 | .add, x, y => some (x + y)
 | .sub, x, y => some (x - y)
 | .mul, x, y => some (x * y)
 | _, _, _ => none
theorem wrap_id (k : IntKind) (z : Int) (hlo : k.min ≤ z) (hhi : z ≤ k.max) : k.wrap z = z := by
 cases k <;> (simp [IntKind.min, IntKind.max, IntKind.bits, IntKind.signed] at hlo hhi; simp [IntKind.wrap, IntKind.bits, IntKind.signed]) <;> (try split) <;> omega
theorem i_arith (hF : Fd F) (h : Fr N ds T a) (hg : guardOf T ops g = some true) {t t' : TypeId} {o : BinOp} {x y : Operand} {k : IntKind} {p q z : Int} (hx : ev T x = some (.int k p)) (hy : ev T y = some (.int k q))
 (hr : arI o p q = some z) (hlo : k.min ≤ z) (hhi : z ≤ k.max) (hd : d < N) (K : ∀ a', Fr N ds ((d, .int k z) :: T) a' → wpListIn F n P ops Q rest a' w) : wpListIn F n P ops Q (⟨some d, .binOp o t x y t', ty, ps, af, g⟩ :: rest) a w :=
 step hF h hg (by simp) (v := .int k z) (w' := w) (by
  have hw := wrap_id k z hlo hhi
  cases o <;> simp only [arI, Option.some.injEq] at hr <;> first
   | (cases hr; done)
   | (subst hr; simp [execOp, h.eval hx, h.eval hy, eqGuard_at_int, binOp, Op.intArith, hw])) (K _ (h.put hd _))
theorem i_ar64 (hF : Fd F) (h : Fr N ds T a) (hg : guardOf T ops g = some true) {t t' : TypeId} {o : BinOp} {x y : Operand} {p q z : Int} (hx : ev T x = some (int p)) (hy : ev T y = some (int q))
 (hr : arI o p q = some z) (hlo : -9223372036854775808 ≤ z) (hhi : z ≤ 9223372036854775807) (hd : d < N) (K : ∀ a', Fr N ds ((d, int z) :: T) a' → wpListIn F n P ops Q rest a' w) : wpListIn F n P ops Q (⟨some d, .binOp o t x y t', ty, ps, af, g⟩ :: rest) a w :=
 i_arith hF h hg hx hy hr (by simpa [IntKind.min, IntKind.signed, IntKind.bits] using hlo) (by simpa [IntKind.max, IntKind.signed, IntKind.bits] using hhi) hd K
theorem i_arU64 (hF : Fd F) (h : Fr N ds T a) (hg : guardOf T ops g = some true) {t t' : TypeId} {o : BinOp} {x y : Operand} {p q z : Int} (hx : ev T x = some (.int .u64 p)) (hy : ev T y = some (.int .u64 q))
 (hr : arI o p q = some z) (hlo : 0 ≤ z) (hhi : z ≤ 18446744073709551615) (hd : d < N) (K : ∀ a', Fr N ds ((d, .int .u64 z) :: T) a' → wpListIn F n P ops Q rest a' w) : wpListIn F n P ops Q (⟨some d, .binOp o t x y t', ty, ps, af, g⟩ :: rest) a w :=
 i_arith hF h hg hx hy hr (by simpa [IntKind.min, IntKind.signed, IntKind.bits] using hlo) (by simpa [IntKind.max, IntKind.signed, IntKind.bits] using hhi) hd K
theorem i_conv (hF : Fd F) (h : Fr N ds T a) (hg : guardOf T ops g = some true) {s t : TypeId} {k k' : IntKind} [hs : IntTy P s k] [ht : IntTy P t k'] {x : Operand} {z z' : Int} (hx : ev T x = some (.int k z)) (hw : k'.wrap z = z') (hd : d < N)
 (K : ∀ a', Fr N ds ((d, .int k' z') :: T) a' → wpListIn F n P ops Q rest a' w) : wpListIn F n P ops Q (⟨some d, .convert s t x, ty, ps, af, g⟩ :: rest) a w :=
 step hF h hg (by simp) (v := .int k' z') (w' := w) (by
  simp [execOp, convert, h.eval hx, run_underlying hs.out, run_underlying ht.out, Conv.intToInt, hw]) (K _ (h.put hd _))
theorem i_convByte (hF : Fd F) (h : Fr N ds T a) (hg : guardOf T ops g = some true) {s t : TypeId} {k' : IntKind} [hs : IntTy P s .u8] [ht : IntTy P t k'] {x : Operand} {b : UInt8} (hx : ev T x = some (byt b)) (hd : d < N)
 (K : ∀ a', Fr N ds ((d, .int k' (b.toNat : Int)) :: T) a' → wpListIn F n P ops Q rest a' w) (hk : k' ≠ .i8) : wpListIn F n P ops Q (⟨some d, .convert s t x, ty, ps, af, g⟩ :: rest) a w :=
 i_conv hF h hg hx (by
  have hb := b.toNat_lt
  refine wrap_id _ _ ?_ ?_ <;> cases k' <;> simp [IntKind.min, IntKind.max, IntKind.signed, IntKind.bits] at hk ⊢ <;> omega) hd K
theorem i_not (hF : Fd F) (h : Fr N ds T a) (hg : guardOf T ops g = some true) {t : TypeId} {x : Operand} {b : Bool} (hx : ev T x = some (.bool b)) (hd : d < N)
 (K : ∀ a', Fr N ds ((d, .bool (!b)) :: T) a' → wpListIn F n P ops Q rest a' w) : wpListIn F n P ops Q (⟨some d, .unOp .not t x, ty, ps, af, g⟩ :: rest) a w :=
 step hF h hg (by simp) (v := .bool (!b)) (w' := w) (by simp [execOp, Op.unary, h.eval hx]) (K _ (h.put hd _))
end
end Go.Proofs.YtjlmpghcjgbfjaaGreatDoor.Ex
namespace Go.Proofs.YtjlmpghcjgbfjaaGreatDoor.Ex
open Go Go.RowKit
/-- v is a slice of n elements (sz cells each) that reads xs, in a block of the call's own, R; or nil -/
def RowIs (e : TypeId) (sz : Nat) (v : Value) (n : Nat) (xs : List Value) (R : List (Nat × Obj)) : Prop :=
 xs.length = n * sz ∧ ((v = .slice none 0 0 ∧ n = 0 ∧ R = []) ∨
  ∃ b cap junk, v = .slice (some ⟨b, 0, none⟩) n cap ∧ n ≤ cap ∧ cap ≤ maxLen ∧ xs.length + junk.length = cap * sz ∧ R = [(b, Obj.cells (xs ++ junk).toArray e (0, 0))])
theorem RowIs.nil (e : TypeId) (sz : Nat) : RowIs e sz (.slice none 0 0) 0 [] [] := ⟨by simp, .inl ⟨rfl, rfl, rfl⟩⟩
theorem RowIs.made {e : TypeId} {sz n b : Nat} {xs : List Value} (h : xs.length = n * sz) (hm : n ≤ maxLen) : RowIs e sz (.slice (some ⟨b, 0, none⟩) n n) n xs [(b, Obj.cells xs.toArray e (0, 0))] :=
 ⟨h, .inr ⟨b, n, [], rfl, Nat.le_refl _, hm, by simpa using h, by simp⟩⟩
class Elem (P : Program) (e : TypeId) (sz bytes : outParam Nat) : Prop where
 out : ∃ i z, P.info? e = some i ∧ i.zero = some z ∧ i.size = sz ∧ i.bytes = bytes ∧ z.cells.size = sz ∧ 0 < sz
section
variable {P : Program} {w : World} {n0 : Nat} {w0 : World} {L : List (Nat × Obj)}
theorem run_append_R {t e : TypeId} {sz bytes : Nat} [hs : SliceTy P t e] [he : Elem P e sz bytes] {v : Value} {n : Nat} {xs : List Value} {R : List (Nat × Obj)} (hr : RowIs e sz v n xs R) (H : St n0 w0 (R ++ L) w)
 {ad : Addr} {m c : Nat} {news : List Value} (hl : news.length = m * sz) (hc : ∀ (j : Nat) u, news[j]? = some u → w.cell? (ad.add j) = some u) (h1 : ∀ u ∈ news, u.oneCell' = true)
 (hb : (n + m) * bytes ≤ 140737488355328) (h63 : n + m ≤ 9223372036854775807) (ty : TypeId) :
 ∃ v' w' R', (Builtin.append_ #[t, t] ty #[v, .slice (some ad) m c]).run P w = .ok v' w' ∧ RowIs e sz v' (n + m) (xs ++ news) R' ∧ St n0 w0 (R' ++ L) w' := by
 obtain ⟨i, z, hi, hz, rfl, rfl, hzs, hsz⟩ := he.out
 have ht := hs.out
 have hlen : (xs ++ news).length = (n + m) * i.size := by rw [List.length_append, hr.1, hl, Nat.add_mul]
 have hL : ∀ {R}, St n0 w0 (R ++ L) w → St n0 w0 L w := fun H => H.sub (List.sublist_append_right _ _)
 have grown : ∀ (old : Nat), St n0 w0 (([(w.heap.size, Obj.cells (xs.toArray ++ news.toArray ++ Builtin.zeroCells z.cells (grownCap w (n + m) old e - (n + m))) e (0, 0))]) ++ L) (w.drew.alloc (.cells (xs.toArray ++ news.toArray ++ Builtin.zeroCells z.cells (grownCap w (n + m) old e - (n + m))) e)) ∧
  RowIs e i.size (.slice (some ⟨w.heap.size, 0, none⟩) (n + m) (grownCap w (n + m) old e)) (n + m) (xs ++ news) [(w.heap.size, Obj.cells (xs.toArray ++ news.toArray ++ Builtin.zeroCells z.cells (grownCap w (n + m) old e - (n + m))) e (0, 0))] := by
  intro old
  have hge := grownCap_ge w (n + m) old e
  refine ⟨(hL H).drew.alloc _, hlen, .inr ⟨w.heap.size, _, (Builtin.zeroCells z.cells (grownCap w (n + m) old e - (n + m))).toList, rfl, hge, grownCap_le_maxLen _ _ _ _ (by unfold maxLen; omega), ?_, ?_⟩⟩
  · rw [hlen, Array.length_toList, size_zeroCells, hzs, ← Nat.add_mul]
    congr 1; omega
  · congr 3
    apply Array.ext'
    simp
 rcases hr.2 with ⟨rfl, rfl, rfl⟩ | ⟨b, cap, junk, rfl, hnc, hcm, hcs, rfl⟩
 · have hx : xs = [] := List.eq_nil_of_length_eq_zero (by simpa using hr.1)
   subst hx
   by_cases hm : m = 0
   · subst hm
     have hn : news = [] := List.eq_nil_of_length_eq_zero (by simpa using hl)
     subst hn
     refine ⟨.slice none 0 0, w, [], ?_, RowIs.nil _ _, H⟩
     simp [Builtin.append_, run_underlying ht, sizeOf, typeInfo, hi, Builtin.lenOf, Builtin.firstCells, loadCells, loadCellsFrom]
   · have hr := run_append_nil (P := P) w t ty e i z ht hi hz ad m c news hl hc (by omega) (by omega) (by simp only [Nat.zero_add] at hb; omega)
     have hgr := grown 0
     simp only [Nat.zero_add, List.nil_append, Array.empty_append] at hgr ⊢
     exact ⟨_, _, _, hr, hgr.2, hgr.1⟩
 · have hb0 := H.has (b, Obj.cells (xs ++ junk).toArray e (0, 0)) (by simp)
   by_cases hroom : n + m ≤ cap
   · have hfit : n * i.size + news.length ≤ (xs ++ junk).toArray.size := by
      have := Nat.mul_le_mul_right i.size hroom
      rw [Nat.add_mul] at this
      simp; omega
     have hrun := run_append_room (P := P) w t ty e i ht hi b n cap _ hb0 ad m c news hl hc h1 hroom hfit
     have hx : (xs ++ junk).take (n * i.size) = xs := by rw [← hr.1]; simp
     simp only [hx] at hrun
     refine ⟨_, _, [(b, Obj.cells (xs ++ news ++ junk.drop news.length).toArray e (0, 0))], hrun, ⟨hlen, .inr ⟨b, cap, junk.drop news.length, rfl, hroom, hcm, ?_, rfl⟩⟩, ?_⟩
     · simp only [List.length_append, List.length_drop]
       simp only [List.size_toArray, List.length_append] at hfit
       have := hr.1
       omega
     · refine H.turn (b := b) .here rfl rfl rfl (by simp) ?_ (fun k hk => setRow_other w b k _ hk)
       rw [setRow_heap w b _ _ _ _ hb0]
       congr 3
       rw [← hr.1]; simp
   · have holds : ∀ (j : Nat) u, xs[j]? = some u → w.cell? ((⟨b, 0, none⟩ : Addr).add j) = some u := by
      intro j u hu
      rw [add_mk, cell_of hb0]
      have hlt : j < xs.length := by
       rcases Nat.lt_or_ge j xs.length with h | h
       · exact h
       · rw [List.getElem?_eq_none h] at hu; cases hu
      simp only [Nat.zero_add, List.getElem?_toArray]
      rw [List.getElem?_append_left hlt]; exact hu
     have hrun := run_append_grow (P := P) w t ty e i z ht hi hz ⟨b, 0, none⟩ n cap xs hr.1 holds ad m c news hl hc (by omega) (by omega) (growslice_fits (by omega) hb)
     exact ⟨_, _, _, hrun, (grown cap).2, (grown cap).1⟩
end
section
variable {F : Fence} {n : Nat} {P : Program} {ops : Array Oper} {Q : Exit → Act → World → Prop} {a : Act} {w : World} {rest : List Oper}
variable {N : Nat} {ds : List Deferred} {T : List (Nat × Value)} {n0 : Nat} {w0 : World} {L L' : List (Nat × Obj)}
variable {ty : TypeId} {ps : String} {af : Array Edge} {g : Option (Nat × Bool)} {dst : Option Tmp} {d : Nat} {op : Op}
theorem i_append (hF : Fd F) (h : Fr N ds T a) {e : TypeId} {sz bytes : Nat} {v : Value} {k : Nat} {xs : List Value} {R : List (Nat × Obj)} (hr : RowIs e sz v k xs R) (H : St n0 w0 (R ++ L) w) (hg : guardOf T ops g = some true)
 {t : TypeId} [hs : SliceTy P t e] [he : Elem P e sz bytes] {x y : Operand} {ad : Addr} {m c : Nat} {news : List Value} (hx : ev T x = some v) (hy : ev T y = some (.slice (some ad) m c))
 (hl : news.length = m * sz) (hc : ∀ (j : Nat) u, news[j]? = some u → w.cell? (ad.add j) = some u) (h1 : ∀ u ∈ news, u.oneCell' = true) (hb : (k + m) * bytes ≤ 140737488355328) (h63 : k + m ≤ 9223372036854775807) (hd : d < N)
 (K : ∀ a' w' v' R', RowIs e sz v' (k + m) (xs ++ news) R' → St n0 w0 (R' ++ L) w' → Fr N ds ((d, v') :: T) a' → wpListIn F n P ops Q rest a' w') :
 wpListIn F n P ops Q (⟨some d, .call { callee := .builtin .append, args := #[x, y], argTypes := #[t, t] }, ty, ps, af, g⟩ :: rest) a w := by
 obtain ⟨v', w', R', hrun, h2, h3⟩ := run_append_R (P := P) (t := t) (c := c) hr H hl hc h1 hb h63 ty
 exact step hF h hg (by simp) (by simp [execOp, resolve, invoke, builtin, h.eval hx, h.eval hy, hrun]) (K _ _ _ _ h2 h3 (h.put hd _))
/-- one element, out of a block of its own -/
theorem cells_own {b : Nat} {cs : List Value} {E : TypeId} {fr : Nat × Nat} (H : St n0 w0 L w) (hm : (b, Obj.cells cs.toArray E fr) ∈ L) : ∀ (j : Nat) u, cs[j]? = some u → w.cell? ((⟨b, 0, none⟩ : Addr).add j) = some u := by
 intro j u hu
 rw [add_mk, cell_of (H.mem hm)]
 simpa using hu
theorem i_append_nil (hF : Fd F) (h : Fr N ds T a) {e : TypeId} {sz bytes : Nat} (hg : guardOf T ops g = some true)
 {t : TypeId} [hs : SliceTy P t e] [he : Elem P e sz bytes] {x y : Operand} {r : Option Addr} {k c : Nat} (hx : ev T x = some (.slice r k c)) (hkc : k ≤ c) (hy : ev T y = some (.slice none 0 0)) (hd : d < N)
 (K : ∀ a', Fr N ds ((d, .slice r k c) :: T) a' → wpListIn F n P ops Q rest a' w) :
 wpListIn F n P ops Q (⟨some d, .call { callee := .builtin .append, args := #[x, y], argTypes := #[t, t] }, ty, ps, af, g⟩ :: rest) a w := by
 obtain ⟨i, z, hi, hz, rfl, rfl, hzs, hsz⟩ := he.out
 refine step hF h hg (by simp) (v := .slice r k c) (w' := w) ?_ (K _ (h.put hd _))
 cases r <;> simp [execOp, resolve, invoke, builtin, h.eval hx, h.eval hy, Builtin.append_, run_underlying hs.out, sizeOf, typeInfo, hi, Builtin.lenOf, Builtin.firstCells, hkc, storeCells]
/-- the call returns -/
def Rets (P : Program) (f : FuncId) (args : List Value) (w : World) (S : Value → World → Prop) : Prop := Calls P f args.toArray w fun e w' => ∃ v, e = .returned v ∧ S v w'
/-- the call returns, or panics -/
def RetsP (P : Program) (f : FuncId) (args : List Value) (w : World) (S : Value → World → Prop) (S' : List PanicEntry → World → Prop) : Prop :=
 Calls P f args.toArray w fun e w' => (∃ v, e = .returned v ∧ S v w') ∨ (∃ c, e = .panicked c ∧ S' c w')
theorem Rets.mono {P : Program} {f : FuncId} {args : List Value} {w : World} {S S' : Value → World → Prop} (h : Rets P f args w S) (hs : ∀ v w', S v w' → S' v w') : Rets P f args w S' :=
 Calls.mono h fun _ _ ⟨v, e, s⟩ => ⟨v, e, hs _ _ s⟩
theorem Rets.orP {P : Program} {f : FuncId} {args : List Value} {w : World} {S : Value → World → Prop} {S' : List PanicEntry → World → Prop} (h : Rets P f args w S) : RetsP P f args w S S' :=
 Calls.mono h fun _ _ ⟨v, e, s⟩ => .inl ⟨v, e, s⟩
def evs (T : List (Nat × Value)) : List Operand → Option (List Value)
 | [] => some []
 | x :: r => match ev T x, evs T r with
  | some v, some l => some (v :: l)
  | _, _ => none
theorem evs_eval (h : Fr N ds T a) : ∀ {xs : List Operand} {vs : List Value}, evs T xs = some vs → xs.map a.eval = vs
 | [], vs, hx => by cases hx; rfl
 | x :: r, vs, hx => by
  rw [evs] at hx
  cases hv : ev T x with
  | none => rw [hv] at hx; cases hx
  | some v =>
   cases hr : evs T r with
   | none => rw [hv, hr] at hx; cases hx
   | some l =>
    rw [hv, hr] at hx
    cases hx
    rw [List.map_cons, evs_eval h hr, h.eval hv]
theorem i_makeFunc (hF : Fd F) (h : Fr N ds T a) (hg : guardOf T ops g = some true) {f : Fn} {xs : List Operand} {vs : List Value} (hx : evs T xs = some vs) (hd : d < N)
 (K : ∀ a', Fr N ds ((d, .func f #[] vs.toArray) :: T) a' → wpListIn F n P ops Q rest a' w) : wpListIn F n P ops Q (⟨some d, .makeFunc f #[] xs.toArray, ty, ps, af, g⟩ :: rest) a w :=
 step hF h hg (by simp) (v := .func f #[] vs.toArray) (w' := w) (by
  have e := evs_eval h hx
  simp [execOp, Instr.makeFunc, e]) (K _ (h.put hd _))
theorem wp_enter (hF : Fd F) (h : Fr N ds T a) (hg : guardOf T ops g = some true) {f : FuncId} {vs : Array Value} (hnd : ∀ c, op ≠ .defer c) (hr : (execOp a.eval ⟨dst, op, ty, ps, af, g⟩).run P w = .ok (.enter f vs) w)
 {S : Value → World → Prop} {S' : List PanicEntry → World → Prop} (hC : Calls P f vs w fun e w' => (∃ v, e = .returned v ∧ S v w') ∨ (∃ c, e = .panicked c ∧ S' c w'))
 (K : ∀ v w', S v w' → wpListIn F n P ops Q rest (a.put dst v) w') (Kp : ∀ c w', S' c w' → Q (.panic c) a w') : wpListIn F n P ops Q (⟨dst, op, ty, ps, af, g⟩ :: rest) a w := by
 rw [wpListIn, if_pos (wanted_of h hg)]
 refine ⟨fun f _ => hF.fn f, ?_⟩
 rw [Oper.semAt_plain F _ _ hnd, hr, Oper.uponIn_enter]
 refine ⟨fun hd => (by rw [hF.depth] at hd; cases hd), (hF.calls hC).mono ?_⟩
 rintro e w' (⟨v, rfl, hs⟩ | ⟨c, rfl, hs⟩)
 · exact K _ _ hs
 · exact Kp _ _ hs
theorem i_callP (hF : Fd F) (h : Fr N ds T a) (hg : guardOf T ops g = some true) {f : FuncId} [he : Ent P f] {xs : List Operand} {vs : List Value} {S : Value → World → Prop} {S' : List PanicEntry → World → Prop}
 (hC : RetsP P f vs w S S') (hx : evs T xs = some vs) {ats : Array TypeId} (hd : d < N) (Kp : ∀ c w', S' c w' → Q (.panic c) a w') (K : ∀ v w', S v w' → ∀ a', Fr N ds ((d, v) :: T) a' → wpListIn F n P ops Q rest a' w') :
 wpListIn F n P ops Q (⟨some d, .call { callee := .value (.func f), args := xs.toArray, argTypes := ats }, ty, ps, af, g⟩ :: rest) a w :=
 wp_enter hF h hg (by simp) (by
  have e := evs_eval h hx
  have e2 := he.out vs.toArray w
  simp [execOp, resolve, Act.eval, Deferred.ofValue, invoke, e, e2]) hC (fun v w' hs => K v w' hs _ (h.put hd v)) Kp
theorem i_call (hF : Fd F) (h : Fr N ds T a) (hg : guardOf T ops g = some true) {f : FuncId} [he : Ent P f] {xs : List Operand} {vs : List Value} {S : Value → World → Prop}
 (hC : Rets P f vs w S) (hx : evs T xs = some vs) {ats : Array TypeId} (hd : d < N) (K : ∀ v w', S v w' → ∀ a', Fr N ds ((d, v) :: T) a' → wpListIn F n P ops Q rest a' w') :
 wpListIn F n P ops Q (⟨some d, .call { callee := .value (.func f), args := xs.toArray, argTypes := ats }, ty, ps, af, g⟩ :: rest) a w :=
 i_callP hF h hg (S' := fun _ _ => False) hC.orP hx hd (fun _ _ h => h.elim) K
/-- a call of a function value -/
theorem i_callVP (hF : Fd F) (h : Fr N ds T a) (hg : guardOf T ops g = some true) {x : Operand} {f : FuncId} {cap : List Value} (hf : ev T x = some (.func (.func f) #[] cap.toArray)) [he : Ent P f] {xs : List Operand} {vs : List Value}
 {S : Value → World → Prop} {S' : List PanicEntry → World → Prop} (hC : RetsP P f (vs ++ cap) w S S') (hx : evs T xs = some vs) {ats : Array TypeId} (hd : d < N) (Kp : ∀ c w', S' c w' → Q (.panic c) a w') (K : ∀ v w', S v w' → ∀ a', Fr N ds ((d, v) :: T) a' → wpListIn F n P ops Q rest a' w') :
 wpListIn F n P ops Q (⟨some d, .call { callee := .value x, args := xs.toArray, argTypes := ats }, ty, ps, af, g⟩ :: rest) a w :=
 wp_enter hF h hg (by simp) (by
  have e := evs_eval h hx
  have e2 := he.out (vs ++ cap).toArray w
  simp [execOp, resolve, h.eval hf, Deferred.ofValue, invoke, e, e2]) hC (fun v w' hs => K v w' hs _ (h.put hd v)) Kp
theorem i_callV (hF : Fd F) (h : Fr N ds T a) (hg : guardOf T ops g = some true) {x : Operand} {f : FuncId} {cap : List Value} (hf : ev T x = some (.func (.func f) #[] cap.toArray)) [he : Ent P f] {xs : List Operand} {vs : List Value}
 {S : Value → World → Prop} (hC : Rets P f (vs ++ cap) w S) (hx : evs T xs = some vs) {ats : Array TypeId} (hd : d < N) (K : ∀ v w', S v w' → ∀ a', Fr N ds ((d, v) :: T) a' → wpListIn F n P ops Q rest a' w') :
 wpListIn F n P ops Q (⟨some d, .call { callee := .value x, args := xs.toArray, argTypes := ats }, ty, ps, af, g⟩ :: rest) a w :=
 i_callVP hF h hg hf (S' := fun _ _ => False) hC.orP hx hd (fun _ _ h => h.elim) K
theorem cR0 {id : Nat} {l : List Oper} (h : wpListIn F n P l.toArray Q l a w) : (Code.region id l.toArray false).wpIn F n P Q a w := wpIn_region_lit h
theorem cE0 (h : Q .normal a w) : wpListIn F n P ops Q [] a w := h
theorem cEt0 {c : Code} (h : c.wpIn F n P Q a w) : wpListIn F n P ops (Exit.then (c.wpIn F n P Q) Q) [] a w := h
theorem cS0 {x y : Code} (h : x.wpIn F n P (Exit.then (y.wpIn F n P Q) Q) a w) : (Code.seq x y).wpIn F n P Q a w := wpIn_seq h
theorem c_cond (h : Fr N ds T a) {c : Operand} {x y : Code} {t : Bool} (hc : ev T c = some (.bool t)) (K : (bif t then x else y).wpIn F n P Q a w) : (Code.cond c x y).wpIn F n P Q a w := by
 refine wpIn_cond (h.eval hc) ?_
 cases t <;> exact K
theorem c_loop {c : Code} (I : Act → World → Prop) (μ : Act → World → Nat) (h₀ : I a w) (round : ∀ a w, I a w → c.wpIn F n P (Exit.then (fun a' w' => I a' w' ∧ μ a' w' < μ a w) Q) a w) : (Code.loop c).wpIn F n P Q a w :=
 wpIn_loop I μ h₀ round
/-- a loop whose measure is told beside its invariant -/
theorem c_loopN {c : Code} (I : Nat → Act → World → Prop) (k : Nat) (h₀ : I k a w) (round : ∀ k a w, I k a w → c.wpIn F n P (Exit.then (fun a' w' => ∃ k', k' < k ∧ I k' a' w') Q) a w) : (Code.loop c).wpIn F n P Q a w := by
 induction k using Nat.strongRecOn generalizing a w with
 | _ k ih =>
  have key : ∀ k a w, I k a w → ∃ m, I m a w ∧ ∀ m', I m' a w → m ≤ m' := by
   intro k a w hk
   induction k using Nat.strongRecOn with
   | _ k ih2 =>
    by_cases hx : ∃ k', k' < k ∧ I k' a w
    · obtain ⟨k', hlt, hk'⟩ := hx
      exact ih2 k' hlt hk'
    · exact ⟨k, hk, fun m' hm' => Nat.le_of_not_lt fun hlt => hx ⟨m', hlt, hm'⟩⟩
  classical
  refine wpIn_loop (fun a w => ∃ k, I k a w) (fun a w => if h : ∃ k, I k a w then (key h.choose a w h.choose_spec).choose else 0) ⟨k, h₀⟩ ?_
  rintro a w ⟨k, hk⟩
  have hex : ∃ k, I k a w := ⟨k, hk⟩
  obtain ⟨hm, hle⟩ := (key hex.choose a w hex.choose_spec).choose_spec
  refine Go.wpIn_mono (round _ a w hm) ?_
  intro e a' w' hq
  cases e with
  | normal =>
   obtain ⟨k', hlt, hk'⟩ := hq
   have hex' : ∃ k, I k a' w' := ⟨k', hk'⟩
   refine ⟨⟨k', hk'⟩, ?_⟩
   obtain ⟨_, hle'⟩ := (key hex'.choose a' w' hex'.choose_spec).choose_spec
   simp only [dif_pos hex, dif_pos hex']
   exact Nat.lt_of_le_of_lt (hle' _ hk') hlt
  | _ => exact hq
theorem c_block {id : Nat} {c : Code} (h : c.wpIn F n P (Exit.inBlock id Q) a w) : (Code.block id c).wpIn F n P Q a w := wpIn_block h
theorem cK0 (h : Q .normal a w) : Code.skip.wpIn F n P Q a w := wpIn_skip h
theorem c_exit {id : Nat} (h : Q (.exit id) a w) : (Code.exit id).wpIn F n P Q a w := wpIn_exit h
theorem cKt0 {c : Code} (h : c.wpIn F n P Q a w) : Code.skip.wpIn F n P (Exit.then (c.wpIn F n P Q) Q) a w := wpIn_skip h
theorem c_condT (h : Fr N ds T a) {c : Operand} {x y : Code} (hc : ev T c = some (.bool true)) (K : x.wpIn F n P Q a w) : (Code.cond c x y).wpIn F n P Q a w := c_cond h hc K
theorem c_condF (h : Fr N ds T a) {c : Operand} {x y : Code} (hc : ev T c = some (.bool false)) (K : y.wpIn F n P Q a w) : (Code.cond c x y).wpIn F n P Q a w := c_cond h hc K
theorem c_ret (h : Q .ret a w) : Code.ret.wpIn F n P Q a w := wpIn_ret h
section
variable {K : Act → World → Prop} {id i : Nat} {ch : List PanicEntry}
theorem xa0 (h : Q .ret a w) : Exit.then K Q .ret a w := h
theorem xb0 (h : Q .ret a w) : Exit.inBlock id Q .ret a w := h
theorem xc0 (h : Q (.exit i) a w) : Exit.then K Q (.exit i) a w := h
theorem xd0 (h : Q .normal a w) : Exit.inBlock id Q (.exit id) a w := by simpa [Exit.inBlock] using h
theorem xe0 (hne : i ≠ id) (h : Q (.exit i) a w) : Exit.inBlock id Q (.exit i) a w := by simpa [Exit.inBlock, hne] using h
theorem xf0 (h : K a w) : Exit.then K Q .normal a w := h
theorem xg0 (h : Q .normal a w) : Exit.inBlock id Q .normal a w := h
theorem xh0 (h : Q (.panic ch) a w) : Exit.then K Q (.panic ch) a w := h
theorem xi0 (h : Q (.panic ch) a w) : Exit.inBlock id Q (.panic ch) a w := h
end
theorem enter {f : FuncId} {fn : Func} {c : Code} (hf : P.funcs[f]? = some fn) (hb : fn.body = some c) {args : List Value} (hN : args.length ≤ fn.ntmps) {R : Ending → World → Prop}
 (K : ∀ a, Fr fn.ntmps [] (start 0 args) a → c.wpIn Fence.wide 0 P (bodyPost P fn R) a w) : Calls P f args.toArray w R :=
 calls_of_wp hf hb (wpIn_wide.1 (K _ (Fr.begin args fn.ntmps hN)))
inductive Res (P : Program) (T : List (Nat × Value)) (w : World) : List ResultVar → List Value → Prop
 | nil : Res P T w [] []
 | tmp {t : Nat} {v : Value} {rs : List ResultVar} {vs : List Value} (h : get t T = some v) (hr : Res P T w rs vs) : Res P T w (.tmp t :: rs) (v :: vs)
 | cell {t ty : Nat} {p : Addr} {v : Value} {rs : List ResultVar} {vs : List Value} (h : get t T = some (.pointer (some p))) (hl : (loadVar ty p).run P w = .ok v w) (hr : Res P T w rs vs) : Res P T w (.cell t ty :: rs) (v :: vs)
def resOf (tmps : Array Value) : ResultVar → Sem Value
 | .tmp t => pure (tmps.getD t undef)
 | .cell a t => do loadVar t (← asAddr (tmps.getD a undef))
theorem results_eq (fn : Func) (tmps : Array Value) : results fn tmps = (do
 let vs ← fn.results.mapM (resOf tmps)
 pure (if h : vs.size = 1 then vs[0] else .tuple vs)) := rfl
theorem Res.run (h : Fr N ds T a) {rs : List ResultVar} {vs : List Value} (hr : Res P T w rs vs) : (rs.mapM (resOf a.tmps)).run P w = .ok vs w := by
 induction hr with
 | nil => rfl
 | @tmp t v rs vs ht _ ih =>
  rw [List.mapM_cons]
  have e : a.tmps.getD t undef = v := h.eval (x := .tmp t) ht
  simp only [resOf, Sem.run_bind, Sem.run_pure, Result.andThen_ok, ih, e]
 | @cell t ty p v rs vs ht hl _ ih =>
  rw [List.mapM_cons]
  have e : a.tmps.getD t undef = .pointer (some p) := h.eval (x := .tmp t) ht
  simp only [resOf, Sem.run_bind, Sem.run_pure, Result.andThen_ok, ih, e, asAddr, hl]
def tupleOf : List Value → Value
 | [v] => v
 | vs => .tuple vs.toArray
theorem run_results (h : Fr N ds T a) {fn : Func} {rs : List ResultVar} {vs : List Value} (hf : fn.results = rs.toArray) (hr : Res P T w rs vs) : (results fn a.tmps).run P w = .ok (tupleOf vs) w := by
 have := Res.run h hr
 rw [results_eq, hf, List.mapM_toArray]
 simp only [Sem.run_bind, Sem.run_map, this, Result.andThen_ok, Sem.run_pure]
 match vs with
 | [] => rfl
 | [v] => rfl
 | v :: u :: vs => simp [tupleOf]
theorem leave (h : Fr N [] T a) {fn : Func} {rs : List ResultVar} {vs : List Value} {R : Ending → World → Prop} (hf : fn.results = rs.toArray) (hr : Res P T w rs vs) (hR : R (.returned (tupleOf vs)) w) : bodyPost P fn R .ret a w :=
 ⟨h.defers, _, run_results h hf hr, hR⟩
theorem leaveN (h : Fr N [] T a) {fn : Func} {rs : List ResultVar} {vs : List Value} {R : Ending → World → Prop} (hf : fn.results = rs.toArray) (hr : Res P T w rs vs) (hR : R (.returned (tupleOf vs)) w) : bodyPost P fn R .normal a w :=
 ⟨h.defers, _, run_results h hf hr, hR⟩
theorem load_own {t : TypeId} [hp : PlainTy P t] {b off : Nat} {cs : List Value} {E : TypeId} {fr : Nat × Nat} {v : Value} (H : St n0 w0 L w) (hm : (b, Obj.cells cs.toArray E fr) ∈ L) (hv : cs[off]? = some v) : (loadVar t ⟨b, off, none⟩).run P w = .ok v w := by
 have hc : w.cell? ⟨b, off, none⟩ = some v := by rw [cell_of (H.mem hm)]; simpa using hv
 simp [loadVar, run_isAgg_p hp.out, hc]
theorem load_ownA {t : TypeId} {k : Nat} [hp : AggTy P t k] {b off : Nat} {cs vs : List Value} {E : TypeId} {fr : Nat × Nat} (H : St n0 w0 L w) (hm : (b, Obj.cells cs.toArray E fr) ∈ L) (hv : (cs.drop off).take k = vs) (hl : vs.length = k) :
 (loadVar t ⟨b, off, none⟩).run P w = .ok (.agg vs.toArray) w := by
 have hc : ∀ (j : Nat) v, vs[j]? = some v → w.cell? ((⟨b, off, none⟩ : Addr).add j) = some v := by
  intro j v hj
  rw [add_mk, cell_of (H.mem hm)]
  have hlt : j < vs.length := by
   rcases Nat.lt_or_ge j vs.length with h | h
   · exact h
   · rw [List.getElem?_eq_none h] at hj; cases hj
  have e : ((cs.drop off).take k)[j]? = some v := by rw [hv]; exact hj
  rw [List.getElem?_take_of_lt (by omega), List.getElem?_drop] at e
  simpa using e
 have := run_loadCells_list (P := P) w ⟨b, off, none⟩ vs hc
 rw [hl] at this
 simp [loadVar, run_isAgg_a hp.out, run_sizeOf_a hp.out, this]
theorem Res.own {t ty b off : Nat} [PlainTy P ty] {cs : List Value} {E : TypeId} {fr : Nat × Nat} {v : Value} {rs : List ResultVar} {vs : List Value} (h : get t T = some (ptr b off)) (H : St n0 w0 L w) (hm : (b, Obj.cells cs.toArray E fr) ∈ L) (hv : cs[off]? = some v) (hr : Res P T w rs vs) :
 Res P T w (.cell t ty :: rs) (v :: vs) := .cell h (load_own H hm hv) hr
theorem Res.ownA {t ty b off k : Nat} [AggTy P ty k] {cs us : List Value} {E : TypeId} {fr : Nat × Nat} {rs : List ResultVar} {vs : List Value} (h : get t T = some (ptr b off)) (H : St n0 w0 L w) (hm : (b, Obj.cells cs.toArray E fr) ∈ L) (hv : Seg cs off k us) (hr : Res P T w rs vs) :
 Res P T w (.cell t ty :: rs) (.agg us.toArray :: vs) := .cell h (load_ownA H hm hv.eq.1 hv.eq.2) hr
end
end Go.Proofs.YtjlmpghcjgbfjaaGreatDoor.Ex
namespace Go.Proofs.YtjlmpghcjgbfjaaGreatDoor.Ex
open Go Go.RowKit
def cellsL : Value → List Value
 | .agg cs => cs.toList
 | v => [v]
theorem cellsL_eq (v : Value) : v.cells = (cellsL v).toArray := by cases v <;> simp [Value.cells, cellsL]
def fillL (place : Nat → Option (Nat × Nat)) : List Value → List (Nat × Value) → Option (List Value)
 | cells, [] => some cells
 | cells, (i, v) :: r => match place i with
  | none => none
  | some (off, size) => bif Nat.beq (cellsL v).length size && Nat.ble (off + size) cells.length then fillL place (cells.take off ++ cellsL v ++ cells.drop (off + size)) r else none
theorem foldl_set : ∀ (l : List Value) (off j : Nat) (cs : List Value), off + j + l.length ≤ cs.length →
 (l.zipIdx j).foldl (fun cs (x : Value × Nat) => cs.setIfInBounds (off + x.2) x.1) cs.toArray = (cs.take (off + j) ++ l ++ cs.drop (off + j + l.length)).toArray
 | [], off, j, cs, _ => by simp
 | v :: l, off, j, cs, h => by
  rw [List.zipIdx_cons, List.foldl_cons]
  simp only [List.setIfInBounds_toArray]
  have ih := foldl_set l off (j + 1) (cs.set (off + j) v) (by simp at h ⊢; omega)
  rw [ih]
  congr 1
  have hlt : off + j < cs.length := by simp at h; omega
  rw [List.take_set, List.drop_set_of_lt (by omega)]
  rw [show off + (j + 1) = off + j + 1 by omega, List.take_succ_eq_append_getElem hlt]
  rw [List.set_append_right _ _ (by simp; omega)]
  simp [Nat.min_eq_left (Nat.le_of_lt hlt), List.append_assoc]
  congr 1; omega
theorem fill_of {place : Nat → Option (Nat × Nat)} : ∀ {parts : List (Nat × Value)} {cells out : List Value}, fillL place cells parts = some out → Instr.fill place cells.toArray parts = some out.toArray
 | [], cells, out, h => by cases h; rfl
 | (i, v) :: r, cells, out, h => by
  rw [fillL] at h
  rw [Instr.fill]
  cases hp : place i with
  | none => rw [hp] at h; cases h
  | some p =>
   obtain ⟨off, size⟩ := p
   rw [hp] at h
   dsimp only at h ⊢
   cases hb : (Nat.beq (cellsL v).length size && Nat.ble (off + size) cells.length) with
   | false => rw [hb] at h; cases h
   | true =>
    rw [hb, cond_true] at h
    simp only [Bool.and_eq_true] at hb
    have h1 := Nat.eq_of_beq_eq_true hb.1
    have h2 := Nat.le_of_ble_eq_true hb.2
    have hc := cellsL_eq v
    have e : v.cells.zipIdx.foldl (fun cs (x : Value × Nat) => cs.setIfInBounds (off + x.2) x.1) cells.toArray = (cells.take off ++ cellsL v ++ cells.drop (off + size)).toArray := by
     have := foldl_set (cellsL v) off 0 cells (by omega)
     rw [hc, ← Array.foldl_toList, Array.toList_zipIdx]
     simpa [h1] using this
    have hsz : v.cells.size = size := by rw [hc]; simpa using h1
    have hno : ¬ ((v.cells.size ≠ size || decide (off + v.cells.size > cells.toArray.size)) = true) := by
     simp [hsz]; omega
    rw [if_neg hno]
    have ih := fill_of h
    rw [← e] at ih
    exact ih
/-- a list, laid anew cell by cell -/
def rebuild : List Value → Option (List Value)
 | [] => some []
 | x :: r => match rebuild r with
  | some l => some (x :: l)
  | none => none
theorem rebuild_eq : ∀ l : List Value, rebuild l = some l
 | [] => rfl
 | x :: r => by rw [rebuild, rebuild_eq r]
def fillF (place : Nat → Option (Nat × Nat)) (cells : List Value) (parts : List (Nat × Value)) : Option (List Value) := match fillL place cells parts with
 | some l => rebuild l
 | none => none
theorem fillF_eq {place : Nat → Option (Nat × Nat)} {cells out : List Value} {parts : List (Nat × Value)} (h : fillF place cells parts = some out) : fillL place cells parts = some out := by
 unfold fillF at h
 cases hl : fillL place cells parts with
 | none => rw [hl] at h; cases h
 | some l => rw [hl] at h; dsimp only at h; rw [rebuild_eq] at h; exact h
def placesOf (P : Program) (t : TypeId) : Option (List (Nat × Nat)) := match P.underlying t with
 | some (.struct fs) => fs.toList.mapM (fun f => (P.info? f.type).map fun i => (f.offset, i.size))
 | _ => none
/-- a struct type: its fields' places, and its zero value -/
class StructTy (P : Program) (t : TypeId) (places : outParam (List (Nat × Nat))) : Prop where
 out : placesOf P t = some places
theorem ZeroOf.info {P : Program} {t : TypeId} {cs : List Value} [h : ZeroOf P t cs] : ∃ i z, P.info? t = some i ∧ i.zero = some z ∧ z.cells = cs.toArray := by
 obtain ⟨z, h1, h2⟩ := h.out
 unfold zeroOf at h1
 cases hi : P.info? t with
 | none => rw [hi] at h1; cases h1
 | some i => rw [hi] at h1; exact ⟨i, z, rfl, h1, h2⟩
section
variable {F : Fence} {n : Nat} {P : Program} {ops : Array Oper} {Q : Exit → Act → World → Prop} {a : Act} {w : World} {rest : List Oper}
variable {N : Nat} {ds : List Deferred} {T : List (Nat × Value)} {n0 : Nat} {w0 : World} {L L' : List (Nat × Obj)}
variable {ty : TypeId} {ps : String} {af : Array Edge} {g : Option (Nat × Bool)} {dst : Option Tmp} {d : Nat} {op : Op}
def evp (T : List (Nat × Value)) : List (Nat × Operand) → Option (List (Nat × Value))
 | [] => some []
 | (i, x) :: r => match ev T x, evp T r with
  | some v, some l => some ((i, v) :: l)
  | _, _ => none
theorem evp_eval (h : Fr N ds T a) : ∀ {xs : List (Nat × Operand)} {vs : List (Nat × Value)}, evp T xs = some vs → xs.map (fun x => (x.1, a.eval x.2)) = vs
 | [], vs, hx => by cases hx; rfl
 | (i, x) :: r, vs, hx => by
  rw [evp] at hx
  cases hv : ev T x with
  | none => rw [hv] at hx; cases hx
  | some v =>
   cases hr : evp T r with
   | none => rw [hv, hr] at hx; cases hx
   | some l =>
    rw [hv, hr] at hx
    cases hx
    rw [List.map_cons, evp_eval h hr, h.eval hv]
theorem run_build_s {t : TypeId} {places : List (Nat × Nat)} {zero out : List Value} [hs : StructTy P t places] [hz : ZeroOf P t zero] {parts : List (Nat × Value)} (hf : fillL (fun i => places[i]?) zero parts = some out) (w : World) :
 (Instr.build t parts.toArray).run P w = .ok (.agg out.toArray) w := by
 obtain ⟨i, z, hi, hz1, hz2⟩ := hz.info
 refine run_build w t parts.toArray out.toArray ?_
 have hp := hs.out
 unfold placesOf at hp
 cases hu : P.underlying t with
 | none => rw [hu] at hp; cases hp
 | some dsc =>
  rw [hu] at hp
  cases dsc with
  | struct fs =>
   dsimp only at hp
   simp only [Program.built, hi, hu, hz1, hp, hz2]
   have := fill_of hf
   simpa using this
  | _ => cases hp
theorem i_build (hF : Fd F) (h : Fr N ds T a) (hg : guardOf T ops g = some true) {t : TypeId} {places : List (Nat × Nat)} {zero out : List Value} [hs : StructTy P t places] [hz : ZeroOf P t zero] {xs : List (Nat × Operand)} {vs : List (Nat × Value)}
 (hx : evp T xs = some vs) (hf : fillF (fun i => nth places i) zero vs = some out) (hd : d < N) (K : ∀ a', Fr N ds ((d, .agg out.toArray) :: T) a' → wpListIn F n P ops Q rest a' w) :
 wpListIn F n P ops Q (⟨some d, .build t xs.toArray, ty, ps, af, g⟩ :: rest) a w :=
 step hF h hg (by simp) (v := .agg out.toArray) (w' := w) (by
  have e := evp_eval h hx
  have hp : (fun i => nth places i) = (fun i => places[i]?) := funext fun i => nth_eq places i
  rw [hp] at hf
  have e2 := run_build_s (P := P) (t := t) (fillF_eq hf) w
  simp only [execOp, List.map_toArray, e, Sem.run_bind, e2, Result.andThen_ok, Sem.run_pure]) (K _ (h.put hd _))
theorem i_buildSlice (hF : Fd F) (h : Fr N ds T a) (H : St n0 w0 L w) (hg : guardOf T ops g = some true) {t e sz k : Nat} {zero out : List Value} [hs : SliceTy P t e] [hz : ZeroOf P e zero] [hsz : SizeIs P e sz] {xs : List (Nat × Operand)} {vs : List (Nat × Value)}
 (hx : evp T xs = some vs) (hk : 0 < k * sz) (hk2 : k * sz ≤ 16777216) (hf : fillF (fun i => some (i * sz, sz)) ((List.range (k * sz)).map fun i => (zero[i % zero.length]?).getD default) vs = some out) (hd : d < N)
 (K : ∀ a' w' b, w.heap.size ≤ b → Fr N ds ((d, .slice (some ⟨b, 0, none⟩) k k) :: T) a' → St n0 w0 ((b, .cells out.toArray e (0, 0)) :: L) w' → wpListIn F n P ops Q rest a' w') :
 wpListIn F n P ops Q (⟨some d, .buildSlice t k xs.toArray, ty, ps, af, g⟩ :: rest) a w :=
 step hF h hg (by simp) (v := .slice (some ⟨w.heap.size, 0, none⟩) k k) (w' := w.alloc (.cells out.toArray e)) (by
  have e1 := evp_eval h hx
  obtain ⟨i, z, hi, hz1, hz2⟩ := hz.info
  have hzv := run_zeroValue (P := P) (t := e) (z := z) (by unfold zeroOf; rw [hi]; exact hz1)
  have e2 := fill_of (fillF_eq hf)
  have e3 : ((List.range (k * sz)).map fun i => (zero[i % zero.length]?).getD default).toArray = (Array.range (k * sz)).map fun i => (zero[i % zero.length]?).getD default := by
   apply Array.ext'; simp [Array.toList_range]
  rw [e3] at e2
  have hn : ¬ (16777216 < k * sz) := by omega
  have hn2 : ¬ (k * sz = 0) := by omega
  simp [execOp, Instr.buildSlice, run_underlying hs.out, run_sizeOf hsz.out, hn, hn2, hzv, hz2, e1, e2, newRow]) (K _ _ _ (Nat.le_refl _) (h.put hd _) (H.alloc _))
theorem toList_str (l : List UInt8) : (⟨l.toArray⟩ : ByteArray).toList = l := by
 rw [ByteArray.toList_eq]
theorem size_str (l : List UInt8) : (⟨l.toArray⟩ : ByteArray).size = l.length := by
 show l.toArray.size = _
 simp
theorem append_str (l r : List UInt8) : (⟨l.toArray⟩ : ByteArray) ++ ⟨r.toArray⟩ = ⟨(l ++ r).toArray⟩ := by
 apply ByteArray.ext
 apply Array.ext'
 rw [ByteArray.mk_append_mk]
theorem extract_str (l : List UInt8) (i j : Nat) : (⟨l.toArray⟩ : ByteArray).extract i j = ⟨((l.take j).drop i).toArray⟩ := by
 apply ByteArray.ext
 apply Array.ext'
 simp [ByteArray.data_extract, List.drop_take]
theorem i_eqS (hF : Fd F) (h : Fr N ds T a) (hg : guardOf T ops g = some true) {t t' : TypeId} {x y : Operand} {l r : List UInt8} {b : Bool} (hx : ev T x = some (str l)) (hy : ev T y = some (str r))
 (hr : (l == r) = b) (hd : d < N) (K : ∀ a', Fr N ds ((d, .bool b) :: T) a' → wpListIn F n P ops Q rest a' w) : wpListIn F n P ops Q (⟨some d, .binOp .eql t x y t', ty, ps, af, g⟩ :: rest) a w :=
 step hF h hg (by simp) (v := .bool b) (w' := w) (by simp [execOp, h.eval hx, h.eval hy, eqGuard_at_string, binOp, Op.stringOp, hr]) (K _ (h.put hd _))
theorem i_neS (hF : Fd F) (h : Fr N ds T a) (hg : guardOf T ops g = some true) {t t' : TypeId} {x y : Operand} {l r : List UInt8} {b : Bool} (hx : ev T x = some (str l)) (hy : ev T y = some (str r))
 (hr : (!(l == r)) = b) (hd : d < N) (K : ∀ a', Fr N ds ((d, .bool b) :: T) a' → wpListIn F n P ops Q rest a' w) : wpListIn F n P ops Q (⟨some d, .binOp .neq t x y t', ty, ps, af, g⟩ :: rest) a w :=
 step hF h hg (by simp) (v := .bool b) (w' := w) (by simp [execOp, h.eval hx, h.eval hy, eqGuard_at_string, binOp, Op.stringOp, hr]) (K _ (h.put hd _))
theorem i_addS (hF : Fd F) (h : Fr N ds T a) (hg : guardOf T ops g = some true) {t t' : TypeId} {x y : Operand} {l r : List UInt8} (hx : ev T x = some (str l)) (hy : ev T y = some (str r))
 (hl : l.length + r.length ≤ 9223372036854775807) (hd : d < N) (K : ∀ a', Fr N ds ((d, str (l ++ r)) :: T) a' → wpListIn F n P ops Q rest a' w) : wpListIn F n P ops Q (⟨some d, .binOp .add t x y t', ty, ps, af, g⟩ :: rest) a w :=
 step hF h hg (by simp) (v := str (l ++ r)) (w' := w) (by
  simp [execOp, h.eval hx, h.eval hy, eqGuard_at_string, binOp, Op.stringOp, size_str, append_str]
  omega) (K _ (h.put hd _))
theorem i_lenS (hF : Fd F) (h : Fr N ds T a) (hg : guardOf T ops g = some true) {t : TypeId} [hs : StrTy P t] {x : Operand} {l : List UInt8} (hx : ev T x = some (str l)) (hd : d < N)
 (K : ∀ a', Fr N ds ((d, int l.length) :: T) a' → wpListIn F n P ops Q rest a' w) : wpListIn F n P ops Q (⟨some d, .call { callee := .builtin .len, args := #[x], argTypes := #[t] }, ty, ps, af, g⟩ :: rest) a w :=
 step hF h hg (by simp) (v := int l.length) (w' := w) (by simp [execOp, resolve, invoke, builtin, h.eval hx, Builtin.len_, run_underlying hs.out, size_str, goInt]) (K _ (h.put hd _))
theorem i_len (hF : Fd F) (h : Fr N ds T a) (hg : guardOf T ops g = some true) {t e : TypeId} [hs : SliceTy P t e] {x : Operand} {r : Option Addr} {k c : Nat} (hx : ev T x = some (.slice r k c)) (hd : d < N)
 (K : ∀ a', Fr N ds ((d, int k) :: T) a' → wpListIn F n P ops Q rest a' w) : wpListIn F n P ops Q (⟨some d, .call { callee := .builtin .len, args := #[x], argTypes := #[t] }, ty, ps, af, g⟩ :: rest) a w :=
 step hF h hg (by simp) (v := int k) (w' := w) (by simp [execOp, resolve, invoke, builtin, h.eval hx, Builtin.len_, run_underlying hs.out, goInt]) (K _ (h.put hd _))
/-- a bound that is given, or the one that stands for it -/
def bound (T : List (Nat × Value)) : Option Operand → Nat → Nat → Prop
 | none, dflt, j => j = dflt
 | some x, _, j => ∃ k, ev T x = some (.int k (j : Int))
theorem run_bound {k : IntKind} {j m : Nat} (hj : j ≤ m) (c : BoundsCode) (w : World) : (Instr.sliceBound (.int k (j : Int)) m c).run P w = .ok j w := by
 have : (0 : Int) ≤ (j : Int) ∧ (j : Int) ≤ (m : Int) := by omega
 simp [Instr.sliceBound, asIntOf, hj]
theorem i_sliceS (hF : Fd F) (h : Fr N ds T a) (hg : guardOf T ops g = some true) {t : TypeId} [hs : StrTy P t] {x : Operand} {lo hi : Option Operand} {l : List UInt8} {i j : Nat} (hx : ev T x = some (str l))
 (hi' : bound T lo 0 i) (hj' : bound T hi l.length j) (hij : i ≤ j) (hj : j ≤ l.length) (hd : d < N) (K : ∀ a', Fr N ds ((d, str ((l.take j).drop i)) :: T) a' → wpListIn F n P ops Q rest a' w) :
 wpListIn F n P ops Q (⟨some d, .slice t x lo hi none, ty, ps, af, g⟩ :: rest) a w :=
 step hF h hg (by simp) (v := str ((l.take j).drop i)) (w' := w) (by
  cases lo with
  | none =>
   cases hi'
   cases hi with
   | none =>
    cases hj'
    simp [execOp, Instr.sliceAt, run_underlying hs.out, h.eval hx, Instr.slice, Instr.sliceBounds]
   | some y =>
    obtain ⟨k, hy⟩ := hj'
    simp [execOp, Instr.sliceAt, run_underlying hs.out, h.eval hx, h.eval hy, Instr.slice, Instr.sliceBounds, size_str, extract_str, run_bound hj]
  | some z =>
   obtain ⟨k', hz⟩ := hi'
   cases hi with
   | none =>
    cases hj'
    simp [execOp, Instr.sliceAt, run_underlying hs.out, h.eval hx, h.eval hz, Instr.slice, Instr.sliceBounds, size_str, extract_str, run_bound hij]
   | some y =>
    obtain ⟨k, hy⟩ := hj'
    simp [execOp, Instr.sliceAt, run_underlying hs.out, h.eval hx, h.eval hy, h.eval hz, Instr.slice, Instr.sliceBounds, size_str, extract_str, run_bound hj, run_bound hij]) (K _ (h.put hd _))
/-- a slice of a slice, no third bound -/
theorem i_slice (hF : Fd F) (h : Fr N ds T a) (hg : guardOf T ops g = some true) {t e sz : TypeId} [hs : SliceTy P t e] [hz : SizeIs P e sz] {x : Operand} {lo hi : Option Operand} {r : Option Addr} {len cap i j : Nat} (hx : ev T x = some (.slice r len cap))
 (hi' : bound T lo 0 i) (hj' : bound T hi len j) (hij : i ≤ j) (hj : j ≤ cap) (hd : d < N)
 (K : ∀ a', Fr N ds ((d, .slice (if cap - i = 0 ∧ i = cap then (if cap = i ∧ i = 0 then r else r.map (·.add (i * sz))) else r.map (·.add (i * sz))) (j - i) (cap - i)) :: T) a' → wpListIn F n P ops Q rest a' w) (hne : i < cap) :
 wpListIn F n P ops Q (⟨some d, .slice t x lo hi none, ty, ps, af, g⟩ :: rest) a w := by
 have hc : ¬ (cap - i = 0 ∧ i = cap) := by omega
 have hc2 : ¬ cap = i := by omega
 simp only [if_neg hc] at K
 refine step hF h hg (by simp) (v := .slice (r.map (·.add (i * sz))) (j - i) (cap - i)) (w' := w) ?_ (K _ (h.put hd _))
 cases lo with
 | none =>
  cases hi'
  cases hi with
  | none =>
   cases hj'
   simp [execOp, Instr.sliceAt, run_underlying hs.out, h.eval hx, Instr.slice, Instr.sliceBounds, run_sizeOf hz.out, hc2]
  | some y =>
   obtain ⟨k, hy⟩ := hj'
   simp [execOp, Instr.sliceAt, run_underlying hs.out, h.eval hx, h.eval hy, Instr.slice, Instr.sliceBounds, run_bound hj, run_sizeOf hz.out, hc2]
 | some z =>
  obtain ⟨k', hz'⟩ := hi'
  cases hi with
  | none =>
   cases hj'
   simp [execOp, Instr.sliceAt, run_underlying hs.out, h.eval hx, h.eval hz', Instr.slice, Instr.sliceBounds, run_bound hij, run_sizeOf hz.out, hc2]
  | some y =>
   obtain ⟨k, hy⟩ := hj'
   simp [execOp, Instr.sliceAt, run_underlying hs.out, h.eval hx, h.eval hy, h.eval hz', Instr.slice, Instr.sliceBounds, run_bound hj, run_bound hij, run_sizeOf hz.out, hc2]
/-- []byte as a text -/
theorem i_bytesStr (hF : Fd F) (h : Fr N ds T a) (hg : guardOf T ops g = some true) {s t e : TypeId} [hs : SliceTy P s e] [he : IntTy P e .u8] [ht : StrTy P t] {x : Operand} {p : Addr} {c : Nat} {l : List UInt8} (hx : ev T x = some (.slice (some p) l.length c))
 (hc : ∀ (j : Nat) u, l[j]? = some u → w.cell? (p.add j) = some (byt u)) (hd : d < N) (K : ∀ a', Fr N ds ((d, str l) :: T) a' → wpListIn F n P ops Q rest a' w) : wpListIn F n P ops Q (⟨some d, .convert s t x, ty, ps, af, g⟩ :: rest) a w :=
 step hF h hg (by simp) (v := str l) (w' := w) (by
  have := run_convert_bytes_back (P := P) w s t e p c l hs.out he.out ht.out (fun j hj => hc j _ (List.getElem?_eq_getElem hj))
  simp [execOp, h.eval hx, this]) (K _ (h.put hd _))
theorem i_bytesStr_nil (hF : Fd F) (h : Fr N ds T a) (hg : guardOf T ops g = some true) {s t e : TypeId} [hs : SliceTy P s e] [he : IntTy P e .u8] [ht : StrTy P t] {x : Operand} {k c : Nat} (hx : ev T x = some (.slice none k c))
 (hd : d < N) (K : ∀ a', Fr N ds ((d, str []) :: T) a' → wpListIn F n P ops Q rest a' w) : wpListIn F n P ops Q (⟨some d, .convert s t x, ty, ps, af, g⟩ :: rest) a w :=
 step hF h hg (by simp) (v := str []) (w' := w) (by
  have := run_convert_bytes_nil (P := P) (w := w) s e hs.out he.out k c t ht.out
  simp [execOp, h.eval hx, this]; rfl) (K _ (h.put hd _))
theorem i_eqB (hF : Fd F) (h : Fr N ds T a) (hg : guardOf T ops g = some true) {t t' : TypeId} [BoolTy P t] {x y : Operand} {p q b : Bool} (hx : ev T x = some (.bool p)) (hy : ev T y = some (.bool q))
 (hr : (p == q) = b) (hd : d < N) (K : ∀ a', Fr N ds ((d, .bool b) :: T) a' → wpListIn F n P ops Q rest a' w) : wpListIn F n P ops Q (⟨some d, .binOp .eql t x y t', ty, ps, af, g⟩ :: rest) a w :=
 step hF h hg (by simp) (v := .bool b) (w' := w) (by
  have hB : P.underlying t = some .bool := BoolTy.out
  simp [execOp, h.eval hx, h.eval hy, eqGuard_at_bool, run_eql_bool, hB, hr]) (K _ (h.put hd _))
theorem i_neB (hF : Fd F) (h : Fr N ds T a) (hg : guardOf T ops g = some true) {t t' : TypeId} [BoolTy P t] {x y : Operand} {p q b : Bool} (hx : ev T x = some (.bool p)) (hy : ev T y = some (.bool q))
 (hr : (p != q) = b) (hd : d < N) (K : ∀ a', Fr N ds ((d, .bool b) :: T) a' → wpListIn F n P ops Q rest a' w) : wpListIn F n P ops Q (⟨some d, .binOp .neq t x y t', ty, ps, af, g⟩ :: rest) a w :=
 step hF h hg (by simp) (v := .bool b) (w' := w) (by
  have hB : P.underlying t = some .bool := BoolTy.out
  have hr' : (!(p == q)) = b := hr
  simp [execOp, h.eval hx, h.eval hy, eqGuard_at_bool, run_neq_bool, hB, hr']) (K _ (h.put hd _))
theorem run_equalIn_func (k : Nat) (t : TypeId) {p : Array TypeId} {q : Array TypeId} {r : Bool} (hB : P.underlying t = some (.func p q r)) (f : Fn) (u v : Array Value) : (Op.equalIn (k + 1) t (.func f u v) .nilFunc).run P w = .ok false w := by
 simp [Op.equalIn, run_underlying hB]
/-- a function value against nil -/
theorem i_eqF (hF : Fd F) (h : Fr N ds T a) (hg : guardOf T ops g = some true) {t t' : TypeId} [hf : FuncTy P t] {x y : Operand} {f : Fn} {u v : Array Value} (hx : ev T x = some (.func f u v)) (hy : ev T y = some .nilFunc)
 (hd : d < N) (K : ∀ a', Fr N ds ((d, .bool false) :: T) a' → wpListIn F n P ops Q rest a' w) : wpListIn F n P ops Q (⟨some d, .binOp .eql t x y t', ty, ps, af, g⟩ :: rest) a w :=
 step hF h hg (by simp) (v := .bool false) (w' := w) (by
  obtain ⟨p, q, r, hB⟩ := hf.out
  have e := run_equalIn_func (w := w) 9999 t hB f u v
  have e2 : (binOp .eql t (.func f u v) .nilFunc).run P w = .ok (.bool false) w := by
   simp only [binOp]
   simp [Op.equal, Op.maxDepth, e]
  simp [execOp, h.eval hx, h.eval hy, eqGuard_at_func, e2]) (K _ (h.put hd _))
/-- min, max of two ints -/
theorem i_min (hF : Fd F) (h : Fr N ds T a) (hg : guardOf T ops g = some true) {x y : Operand} {k : IntKind} {p q : Int} (hx : ev T x = some (.int k p)) (hy : ev T y = some (.int k q)) {ats : Array TypeId} (hd : d < N)
 (K : ∀ a', Fr N ds ((d, .int k (if q < p then q else p)) :: T) a' → wpListIn F n P ops Q rest a' w) : wpListIn F n P ops Q (⟨some d, .call { callee := .builtin .min, args := #[x, y], argTypes := ats }, ty, ps, af, g⟩ :: rest) a w :=
 step hF h hg (by simp) (v := .int k (if q < p then q else p)) (w' := w) (by simp [execOp, resolve, invoke, builtin, h.eval hx, h.eval hy, Builtin.min_, Builtin.min2]) (K _ (h.put hd _))
theorem i_max (hF : Fd F) (h : Fr N ds T a) (hg : guardOf T ops g = some true) {x y : Operand} {k : IntKind} {p q : Int} (hx : ev T x = some (.int k p)) (hy : ev T y = some (.int k q)) {ats : Array TypeId} (hd : d < N)
 (K : ∀ a', Fr N ds ((d, .int k (if q > p then q else p)) :: T) a' → wpListIn F n P ops Q rest a' w) : wpListIn F n P ops Q (⟨some d, .call { callee := .builtin .max, args := #[x, y], argTypes := ats }, ty, ps, af, g⟩ :: rest) a w :=
 step hF h hg (by simp) (v := .int k (if q > p then q else p)) (w' := w) (by simp [execOp, resolve, invoke, builtin, h.eval hx, h.eval hy, Builtin.max_, Builtin.max2]) (K _ (h.put hd _))
theorem i_nilCheck (hF : Fd F) (h : Fr N ds T a) (hg : guardOf T ops g = some true) {x : Operand} {p : Addr} (hx : ev T x = some (.pointer (some p))) (hd : d < N)
 (K : ∀ a', Fr N ds ((d, .pointer (some p)) :: T) a' → wpListIn F n P ops Q rest a' w) : wpListIn F n P ops Q (⟨some d, .nilCheck x, ty, ps, af, g⟩ :: rest) a w :=
 step hF h hg (by simp) (v := .pointer (some p)) (w' := w) (by simp [execOp, h.eval hx]) (K _ (h.put hd _))
end
end Go.Proofs.YtjlmpghcjgbfjaaGreatDoor.Ex
namespace Go.Proofs.YtjlmpghcjgbfjaaGreatDoor.Ex
open Go Go.RowKit
def bytesIs (P : Program) (t : TypeId) (k : Nat) : Bool := match P.info? t with
 | some i => i.bytes == k
 | none => false
theorem Elem.of {P : Program} {e : TypeId} {sz bytes : Nat} {cs : List Value} [hz : ZeroOf P e cs] (h1 : sizeIs P e sz = true) (h2 : bytesIs P e bytes = true) (h3 : cs.length = sz) (h4 : 0 < sz) : Elem P e sz bytes := by
 obtain ⟨i, z, hi, hz1, hz2⟩ := hz.info
 refine ⟨i, z, hi, hz1, ?_, ?_, by rw [hz2]; simpa using h3, h4⟩
 · unfold sizeIs at h1; rw [hi] at h1; exact eq_of_beq h1
 · unfold bytesIs at h2; rw [hi] at h2; exact eq_of_beq h2
class MapTy (P : Program) (t : TypeId) (k e : outParam TypeId) : Prop where
 out : P.underlying t = some (.map k e)
/-- how keys of a map lie: what the model's look asks of them -/
class KeyEnc (P : Program) (K : TypeId) {α : Type} [DecidableEq α] (enc : α → Value) : Prop where
 desc : ∃ d, P.underlying K = some d ∧ (∀ x y, Instr.sameNow d (enc x) (enc y) = some (decide (x = y)))
 check : ∀ empty n x w, (Instr.checkKey empty (n + 1) K (enc x)).run P w = .ok () w
 bits : ∀ x, Instr.sameBits 10000 (enc x) (enc x) = true
instance {P : Program} {K : TypeId} [h : IntTy P K .u8] : KeyEnc P K byt where
 desc := ⟨_, h.out, fun x y => by
  simp only [Instr.sameNow, if_true]
  congr 1
  rw [Bool.eq_iff_iff]
  simp only [beq_iff_eq, decide_eq_true_eq]
  exact ⟨fun h => UInt8.toNat_inj.1 (by omega), fun h => by rw [h]⟩⟩
 check := fun empty n x w => by simp [Instr.checkKey, run_underlying h.out]
 bits := fun x => by simp [Instr.sameBits]
instance {P : Program} {K : TypeId} {k : IntKind} [h : IntTy P K k] : KeyEnc P K (Value.int k) where
 desc := ⟨_, h.out, fun x y => by
  simp only [Instr.sameNow, if_true]
  congr 1⟩
 check := fun empty n x w => by simp [Instr.checkKey, run_underlying h.out]
 bits := fun x => by simp [Instr.sameBits]
instance {P : Program} {K : TypeId} [h : StrTy P K] : KeyEnc P K str where
 desc := ⟨_, h.out, fun x y => by
  simp only [Instr.sameNow, beq_toListBytes, toList_str]
  congr 1
  rw [Bool.eq_iff_iff]
  simp only [beq_iff_eq, decide_eq_true_eq]⟩
 check := fun empty n x w => by simp [Instr.checkKey, run_underlying h.out]
 bits := fun x => by simp [Instr.sameBits, beq_toListBytes]
/-- what a map holds: key, element, stamp -/
abbrev Ents (α : Type) := List (α × Value × Nat)
def mapObj {α : Type} (enc : α → Value) (M : Ents α) (c : Nat) : Obj := .map (M.map fun x => ⟨enc x.1, x.2.1, x.2.2⟩).toArray c
def mget {α : Type} [DecidableEq α] (M : Ents α) (k : α) : Option Value := (M.find? fun x => decide (x.1 = k)).map (·.2.1)
def mset {α : Type} [DecidableEq α] (M : Ents α) (k : α) (v : Value) : Ents α := M.map fun x => if x.1 = k then (x.1, v, x.2.2) else x
structure MapOk {α : Type} (M : Ents α) (c : Nat) : Prop where
 old : ∀ x ∈ M, x.2.2 < c
 born : (M.map (·.2.2)).Nodup
 key : (M.map (·.1)).Nodup
theorem MapOk.nil {α : Type} : MapOk ([] : Ents α) 0 := ⟨by simp, by simp, by simp⟩
section
variable {P : Program} {w : World} {α : Type} [DecidableEq α] {enc : α → Value} {M : Ents α} {c : Nat} {K : TypeId}
def kfind (k : α) : Ents α → Nat → Option (Nat × Value)
 | [], _ => none
 | x :: r, i => if k = x.1 then some (i, x.2.1) else kfind k r (i + 1)
theorem findNow_of [h : KeyEnc P K enc] {d : TypeDesc} (hd : ∀ x y, Instr.sameNow d (enc x) (enc y) = some (decide (x = y))) (k : α) : ∀ (M : Ents α) (i : Nat),
 Instr.findNow d (enc k) (M.map fun x => (⟨enc x.1, x.2.1, x.2.2⟩ : MapEntry)) i = some (kfind k M i)
 | [], i => rfl
 | x :: r, i => by
  rw [List.map_cons, Instr.findNow, hd, kfind]
  by_cases e : k = x.1
  · simp [e]
  · simp only [e, decide_false, if_false]
    exact findNow_of (h := h) hd k r (i + 1)
theorem run_findKey [h : KeyEnc P K enc] (k : α) (M : Ents α) (w : World) : (Instr.findKey K (enc k) (M.map fun x => (⟨enc x.1, x.2.1, x.2.2⟩ : MapEntry))).run P w = .ok (kfind k M 0) w := by
 obtain ⟨d, h1, h2⟩ := h.desc
 simp [Instr.findKey, run_underlying h1, findNow_of (h := h) h2]
theorem kfind_get (k : α) : ∀ (M : Ents α) (i : Nat), (kfind k M i).map (·.2) = mget M k
 | [], i => rfl
 | x :: r, i => by
  rw [kfind, mget, List.find?_cons]
  by_cases e : x.1 = k
  · subst e; simp
  · rw [if_neg (fun h => e h.symm)]
    simp only [e, decide_false]
    exact kfind_get k r (i + 1)
theorem kfind_at (k : α) : ∀ (M : Ents α) (i j : Nat) (v : Value), kfind k M i = some (j, v) → i ≤ j ∧ ∃ x, M[j - i]? = some x ∧ x.1 = k
 | [], i, j, v, h => by cases h
 | x :: r, i, j, v, h => by
  rw [kfind] at h
  by_cases e : k = x.1
  · rw [if_pos e] at h; cases h
    exact ⟨Nat.le_refl _, x, by simp, e.symm⟩
  · rw [if_neg e] at h
    obtain ⟨h1, y, h2, h3⟩ := kfind_at k r (i + 1) j v h
    refine ⟨by omega, y, ?_, h3⟩
    rw [show j - i = (j - (i + 1)) + 1 by omega]
    simpa using h2
theorem getObj_map {b : Nat} {es : Array MapEntry} (hb : w.heap[b]? = some (.map es c)) : (getObj b).run P w = .ok (.map es c) w := by simp [getObj, Sem.run, hb]
theorem run_lookup {t e : TypeId} [ht : MapTy P t K e] [h : KeyEnc P K enc] {zero : List Value} [hz : ZeroOf P e zero] {b : Nat} (hb : w.heap[b]? = some (mapObj enc M c)) (k : α) (ok : Bool) :
 ∃ z : Value, z.cells = zero.toArray ∧ (Instr.lookup t (.map (some b)) (enc k) ok).run P w = .ok (if ok then .tuple #[(mget M k).getD z, .bool (mget M k).isSome] else (mget M k).getD z) w := by
 obtain ⟨i, z, hi, hz1, hz2⟩ := hz.info
 refine ⟨z, hz2, ?_⟩
 have hzv := run_zeroValue (P := P) (t := e) (z := z) (by unfold zeroOf; rw [hi]; exact hz1)
 have hg := kfind_get k M 0
 have hck := fun empty => h.check empty 9999 k w
 simp only [Instr.lookup, Sem.run_bind, run_underlying ht.out, Result.andThen_ok, getObj_map hb, Sem.run_pure, hck, run_findKey]
 cases hf : kfind k M 0 with
 | none => rw [hf] at hg; simp only [Option.map_none] at hg; rw [← hg]; simp [hzv]
 | some p => rw [hf] at hg; simp only [Option.map_some] at hg; rw [← hg]; cases ok <;> simp
theorem mset_at {k : α} {v : Value} : ∀ (M : Ents α), (M.map (·.1)).Nodup → ∀ (j : Nat) x, M[j]? = some x → x.1 = k → M.modify j (fun x => (x.1, v, x.2.2)) = mset M k v
 | [], _, j, x, h, _ => by simp at h
 | y :: r, hn, j, x, h, e => by
  rw [List.map_cons, List.nodup_cons] at hn
  cases j with
  | zero =>
   simp only [List.getElem?_cons_zero, Option.some.injEq] at h
   subst h
   have : mset r k v = r := by
    unfold mset
    conv => rhs; rw [← List.map_id r]
    apply List.map_congr_left
    intro x hx
    rw [if_neg]
    · rfl
    · intro e2
      exact hn.1 (List.mem_map.2 ⟨x, hx, e2.trans e.symm⟩)
   show _ = List.map _ (y :: r)
   simp only [List.modify_zero_cons, List.map_cons, e, if_true]
   congr 1
   exact this.symm
  | succ j =>
   simp only [List.getElem?_cons_succ] at h
   have hy : ¬ y.1 = k := by
    intro e2
    exact hn.1 (List.mem_map.2 ⟨x, List.mem_of_getElem? h, e.trans e2.symm⟩)
   show _ = List.map _ (y :: r)
   simp only [List.modify_succ_cons, List.map_cons, hy, if_false]
   congr 1
   exact mset_at r hn.2 j x h e
end
section
variable {F : Fence} {n : Nat} {P : Program} {ops : Array Oper} {Q : Exit → Act → World → Prop} {a : Act} {w : World} {rest : List Oper}
variable {N : Nat} {ds : List Deferred} {T : List (Nat × Value)} {n0 : Nat} {w0 : World} {L L' : List (Nat × Obj)}
variable {ty : TypeId} {ps : String} {af : Array Edge} {g : Option (Nat × Bool)} {dst : Option Tmp} {d : Nat} {op : Op}
variable {α : Type} {enc : α → Value} {M : Ents α} {c : Nat} {K : TypeId}
theorem putObj_turn {b : Nat} {o o' : Obj} (H : St n0 w0 L w) (hu : Upd b o o' L L') : St n0 w0 L' { w with heap := w.heap.setIfInBounds b o' } := by
 have hb := lt_of_heap (H.mem hu.mem.1)
 refine H.turn hu rfl rfl rfl (by simp) (by simp [hb]) (fun k hk => ?_)
 simp only [Array.getElem?_setIfInBounds]
 rw [if_neg (fun e => hk e.symm)]
theorem i_makeMap (hF : Fd F) (h : Fr N ds T a) (H : St n0 w0 L w) (hg : guardOf T ops g = some true) {t : TypeId} (hd : d < N)
 (Kt : ∀ a' w' b, w.heap.size ≤ b → Fr N ds ((d, .map (some b)) :: T) a' → St n0 w0 ((b, mapObj enc [] 0) :: L) w' → wpListIn F n P ops Q rest a' w') :
 wpListIn F n P ops Q (⟨some d, .makeMap t none, ty, ps, af, g⟩ :: rest) a w :=
 step hF h hg (by simp) (v := .map (some w.heap.size)) (w' := w.alloc (mapObj enc [] 0)) (by
  simp [execOp, Instr.makeMap]; rfl) (Kt _ _ _ (Nat.le_refl _) (h.put hd _) (H.alloc _))
theorem i_lookupW [DecidableEq α] (hF : Fd F) (h : Fr N ds T a) (hg : guardOf T ops g = some true) {t e : TypeId} [ht : MapTy P t K e] [hk : KeyEnc P K enc] {zero : Value} [hz : ZeroOf P e (cellsL zero)] (hzs : plainTy P e = true ∧ zero.oneCell' = true ∨ ∃ cs, zero = .agg cs)
 {x y : Operand} {b : Nat} {k : α} {ok : Bool} (hx : ev T x = some (.map (some b))) (hy : ev T y = some (enc k)) (hm : w.heap[b]? = some (mapObj enc M c)) (hd : d < N) (hzz : ∀ z : Value, zeroOf P e = some z → z = zero)
 (Kt : ∀ a', Fr N ds ((d, if ok then .tuple #[(mget M k).getD zero, .bool (mget M k).isSome] else (mget M k).getD zero) :: T) a' → wpListIn F n P ops Q rest a' w) :
 wpListIn F n P ops Q (⟨some d, .lookup t x y ok, ty, ps, af, g⟩ :: rest) a w := by
 obtain ⟨i, z, hi, hz1, hz2⟩ := hz.info
 have e1 : zeroOf P e = some z := by unfold zeroOf; rw [hi]; exact hz1
 have e2 := hzz z e1
 subst e2
 have hzv := run_zeroValue e1
 have hgk := kfind_get k M 0
 have hck := fun empty => hk.check empty 9999 k w
 refine step hF h hg (by simp) (w' := w) ?_ (Kt _ (h.put hd _))
 simp only [execOp, h.eval hx, h.eval hy, Instr.lookup, Sem.run_bind, run_underlying ht.out, Result.andThen_ok, getObj_map hm, Sem.run_pure, hck, run_findKey]
 cases hf : kfind k M 0 with
 | none => rw [hf] at hgk; simp only [Option.map_none] at hgk; rw [← hgk]; simp [hzv]
 | some p => rw [hf] at hgk; simp only [Option.map_some] at hgk; rw [← hgk]; cases ok <;> simp
theorem i_mapNew [DecidableEq α] (hF : Fd F) (h : Fr N ds T a) (H : St n0 w0 L w) (hg : guardOf T ops g = some true) {t e : TypeId} [ht : MapTy P t K e] [hk : KeyEnc P K enc] {x y z : Operand} {b : Nat} {k : α} {v : Value}
 (hx : ev T x = some (.map (some b))) (hy : ev T y = some (enc k)) (hz : ev T z = some v) (hnone : mget M k = none) (hu : Upd b (mapObj enc M c) (mapObj enc (M ++ [(k, v, c)]) (c + 1)) L L') (hop : op = .mapUpdate t x y z ∨ op = .insert t x y z)
 (Kt : ∀ w', St n0 w0 L' w' → wpListIn F n P ops Q rest a w') : wpListIn F n P ops Q (⟨none, op, ty, ps, af, g⟩ :: rest) a w := by
 have hb := H.mem hu.mem.1
 have hgk := kfind_get k M 0
 have hck := hk.check false 9999 k w
 have hf : kfind k M 0 = none := by
  cases hf : kfind k M 0 with
  | none => rfl
  | some p => rw [hf, hnone] at hgk; cases hgk
 refine stepU hF h hg (by rcases hop with rfl | rfl <;> simp) (w' := { w with heap := w.heap.setIfInBounds b (mapObj enc (M ++ [(k, v, c)]) (c + 1)) }) ?_ (Kt _ (putObj_turn H hu))
 have hrun : (Instr.mapUpdate t (.map (some b)) (enc k) v).run P w = .ok () { w with heap := w.heap.setIfInBounds b (mapObj enc (M ++ [(k, v, c)]) (c + 1)) } := by
  simp only [Instr.mapUpdate, Sem.run_bind, run_underlying ht.out, Result.andThen_ok, getObj_map hb, hck, run_findKey, hf]
  simp only [setObj, Sem.run, hb, mapObj]
  simp
 rcases hop with rfl | rfl <;> simp [execOp, h.eval hx, h.eval hy, h.eval hz, hrun]
theorem i_mapOld [DecidableEq α] (hF : Fd F) (h : Fr N ds T a) (H : St n0 w0 L w) (hg : guardOf T ops g = some true) {t e : TypeId} [ht : MapTy P t K e] [hk : KeyEnc P K enc] {x y z : Operand} {b : Nat} {k : α} {v : Value} (hM : MapOk M c)
 (hx : ev T x = some (.map (some b))) (hy : ev T y = some (enc k)) (hz : ev T z = some v) (hsome : (mget M k).isSome = true) (hu : Upd b (mapObj enc M c) (mapObj enc (mset M k v) c) L L') (hop : op = .mapUpdate t x y z ∨ op = .insert t x y z)
 (Kt : ∀ w', St n0 w0 L' w' → wpListIn F n P ops Q rest a w') : wpListIn F n P ops Q (⟨none, op, ty, ps, af, g⟩ :: rest) a w := by
 have hb := H.mem hu.mem.1
 have hgk := kfind_get k M 0
 have hck := hk.check false 9999 k w
 obtain ⟨j, v', hf⟩ : ∃ j v', kfind k M 0 = some (j, v') := by
  cases hf : kfind k M 0 with
  | none => rw [hf] at hgk; rw [← hgk] at hsome; cases hsome
  | some p => exact ⟨p.1, p.2, rfl⟩
 obtain ⟨_, y', hj, e⟩ := kfind_at k M 0 j v' hf
 simp only [Nat.sub_zero] at hj
 have hset := mset_at (v := v) M hM.key j y' hj e
 refine stepU hF h hg (by rcases hop with rfl | rfl <;> simp) (w' := { w with heap := w.heap.setIfInBounds b (mapObj enc (mset M k v) c) }) ?_ (Kt _ (putObj_turn H hu))
 have hrun : (Instr.mapUpdate t (.map (some b)) (enc k) v).run P w = .ok () { w with heap := w.heap.setIfInBounds b (mapObj enc (mset M k v) c) } := by
  simp only [Instr.mapUpdate, Sem.run_bind, run_underlying ht.out, Result.andThen_ok, getObj_map hb, hck, run_findKey, hf]
  have hk1 : (((M.map fun x => (⟨enc x.1, x.2.1, x.2.2⟩ : MapEntry)).toArray[j]?).map (·.key)).getD (enc k) = enc k := by
   simp [hj, e]
  simp only [hk1, Instr.keyThatStays, hk.bits, if_true, Sem.run_pure, Result.andThen_ok, setObj, Sem.run, hb]
  rw [← hset]
  simp only [mapObj, mapObj]
  have : ((M.map fun x => (⟨enc x.1, x.2.1, x.2.2⟩ : MapEntry)).toArray.modify j fun e => { e with key := enc k, val := v }) = ((M.modify j fun x => (x.1, v, x.2.2)).map fun x => (⟨enc x.1, x.2.1, x.2.2⟩ : MapEntry)).toArray := by
   apply Array.ext'
   simp only [Array.toList_modify]
   apply List.ext_getElem?
   intro i
   simp only [List.getElem?_modify, List.getElem?_map]
   by_cases hi : j = i
   · subst hi
     simp [hj, e]
   · simp [hi]
  rw [this]
 rcases hop with rfl | rfl <;> simp [execOp, h.eval hx, h.eval hy, h.eval hz, hrun]
theorem i_lenMap (hF : Fd F) (h : Fr N ds T a) (H : St n0 w0 L w) (hg : guardOf T ops g = some true) {t e : TypeId} [ht : MapTy P t K e] {x : Operand} {b : Nat} (hx : ev T x = some (.map (some b))) (hm : (b, mapObj enc M c) ∈ L) (hd : d < N)
 (Kt : ∀ a', Fr N ds ((d, int M.length) :: T) a' → wpListIn F n P ops Q rest a' w) : wpListIn F n P ops Q (⟨some d, .call { callee := .builtin .len, args := #[x], argTypes := #[t] }, ty, ps, af, g⟩ :: rest) a w :=
 step hF h hg (by simp) (v := int M.length) (w' := w) (by
  have hb := getObj_map (P := P) (H.mem hm)
  simp [execOp, resolve, invoke, builtin, h.eval hx, Builtin.len_, run_underlying ht.out, hb, goInt]) (Kt _ (h.put hd _))
theorem i_range (hF : Fd F) (h : Fr N ds T a) (H : St n0 w0 L w) (hg : guardOf T ops g = some true) {t e : TypeId} [ht : MapTy P t K e] {x : Operand} {b : Nat} (hx : ev T x = some (.map (some b))) (hm : w.heap[b]? = some (mapObj enc M c)) (hd : d < N)
 (Kt : ∀ a' w' r, w.heap.size ≤ r → Fr N ds ((d, ptr r 0) :: T) a' → St n0 w0 ((r, .mapIter (some b) c #[] c) :: L) w' → w'.heap[b]? = some (mapObj enc M c) → wpListIn F n P ops Q rest a' w') :
 wpListIn F n P ops Q (⟨some d, .range t x, ty, ps, af, g⟩ :: rest) a w :=
 step hF h hg (by simp) (v := ptr w.heap.size 0) (w' := w.alloc (.mapIter (some b) c #[] c)) (by
  have := run_range_map (P := P) w t K e b _ c ht.out hm
  simp [execOp, h.eval hx, this]) (Kt _ _ _ (Nat.le_refl _) (h.put hd _) (H.alloc _) (by rw [Below.heap_alloc _ _ _ (lt_of_heap hm)]; exact hm))
theorem i_next (hF : Fd F) (h : Fr N ds T a) (H : St n0 w0 L w) (hg : guardOf T ops g = some true) {x : Operand} {b r : Nat} (hx : ev T x = some (ptr r 0)) (hm : w.heap[b]? = some (mapObj enc M c)) (hM : MapOk M c) {seen : List Nat}
 (hr : (r, Obj.mapIter (some b) c seen.toArray c) ∈ L) (hbr : b ≠ r) (hd : d < N)
 (K0 : (∀ x ∈ M, x.2.2 ∈ seen) → ∀ a' w', Fr N ds ((d, .tuple #[.bool false]) :: T) a' → St n0 w0 L w' → w'.heap[b]? = some (mapObj enc M c) → wpListIn F n P ops Q rest a' w')
 (K1 : ∀ x ∈ M, x.2.2 ∉ seen → ∀ a' w' L', Fr N ds ((d, .tuple #[.bool true, enc x.1, x.2.1]) :: T) a' → Upd r (.mapIter (some b) c seen.toArray c) (.mapIter (some b) c (seen ++ [x.2.2]).toArray c) L L' → St n0 w0 L' w' → w'.heap[b]? = some (mapObj enc M c) →
  wpListIn F n P ops Q rest a' w') :
 wpListIn F n P ops Q (⟨some d, .next x false, ty, ps, af, g⟩ :: rest) a w := by
 have hb := H.mem hr
 have hobj : (getObj r).run P w = .ok (.mapIter (some b) c seen.toArray c) w := by simp [getObj, Sem.run, hb]
 -- what is left, and what may be drawn
 let es := (M.map fun x => (⟨enc x.1, x.2.1, x.2.2⟩ : MapEntry))
 have hes : ∀ y ∈ es, y.born < c := by
  intro y hy
  obtain ⟨x, hx, rfl⟩ := List.mem_map.1 hy
  exact hM.old x hx
 have hchk : (!seen.toArray.isEmpty && !es.toArray.isEmpty && es.toArray.all fun e => decide (e.born ≥ c)) = false := by
  cases hes' : es with
  | nil => simp
  | cons y l =>
   have : ¬ (y.born ≥ c) := by have := hes y (by rw [hes']; simp); omega
   simp [this]
 let left := es.toArray.filter fun e => !seen.toArray.contains e.born
 have hold : left.filter (fun e => decide (e.born < c)) = left := by
  apply Array.ext'
  rw [Array.toList_filter, List.filter_eq_self]
  intro y hy
  have : y ∈ es := by
   have := (Array.mem_filter.1 (Array.mem_toList_iff.1 hy)).1
   simpa using this
  simpa using hes y this
 have hnew : left.filter (fun e => decide (e.born ≥ c)) = #[] := by
  apply Array.ext'
  rw [Array.toList_filter, List.filter_eq_nil_iff]
  intro y hy
  have : y ∈ es := by
   have := (Array.mem_filter.1 (Array.mem_toList_iff.1 hy)).1
   simpa using this
  have := hes y this
  simp; omega
 have hrunq : ∀ q : Question, ∃ k w', (choose q).run P w = .ok k w' ∧ w'.heap = w.heap ∧ w'.os = w.os ∧ w'.tape = w.tape ∧ w'.output = w.output ∧ (q.forced = true → k = 0) ∧ (q.forced = false → ∃ t, k = q.cut t) := by
  intro q
  by_cases hq : q.forced = true
  · exact ⟨0, w, by simp [choose, Sem.run, hq], rfl, rfl, rfl, rfl, fun _ => rfl, fun h => by rw [hq] at h; cases h⟩
  · exact ⟨q.cut (w.tape w.drawn q), { w with drawn := w.drawn + 1 }, by simp [choose, Sem.run, hq], rfl, rfl, rfl, rfl, fun h => absurd h hq, fun _ => ⟨_, rfl⟩⟩
 have hst : ∀ {w' : World}, w'.heap = w.heap → w'.os = w.os → w'.tape = w.tape → w'.output = w.output → St n0 w0 L w' := by
  intro w' h1 h2 h3 h4
  exact ⟨fun x hx => by rw [h1]; exact H.has x hx, H.nodup, H.own, H.below.trans ⟨h2, h3, h4, by rw [h1]; exact Nat.le_refl _, fun k _ => by rw [h1]⟩, H.base⟩
 by_cases hleft : left.isEmpty = true
 · -- nothing is left
   obtain ⟨k, w', hq, h1, h2, h3, h4, h5, h6⟩ := hrunq (.mapNext 1)
   have hk : k = 0 := h5 rfl
   subst hk
   have hall : ∀ x ∈ M, x.2.2 ∈ seen := by
    intro x hx
    have he : left = #[] := by simpa using hleft
    by_cases hs : x.2.2 ∈ seen
    · exact hs
    · exfalso
      have : (⟨enc x.1, x.2.1, x.2.2⟩ : MapEntry) ∈ left := by
       simp only [left, Array.mem_filter]
       refine ⟨by simpa [es] using ⟨x.1, x.2.1, x.2.2, hx, rfl, rfl, rfl⟩, by simpa using hs⟩
      rw [he] at this
      simp at this
   refine step hF h hg (by simp) (v := .tuple #[.bool false]) (w' := w') ?_ (K0 hall _ _ (h.put hd _) (hst h1 h2 h3 h4) (by rw [h1]; exact hm))
   simp only [execOp, h.eval hx, Instr.next, Sem.run_bind, hobj, Result.andThen_ok, getObj_map hm]
   have hchk' := hchk
   simp only [mapObj] at hm ⊢
   rw [if_neg (by simpa [es] using hchk')]
   have hl0 : left = #[] := by simpa using hleft
   have ho : ((M.map fun x => (⟨enc x.1, x.2.1, x.2.2⟩ : MapEntry)).toArray.filter fun e => !seen.toArray.contains e.born) = #[] := hl0
   have hcand : ((if (#[] : Array MapEntry).isEmpty = true then #[none] else #[]) ++ ((#[] : Array MapEntry) ++ #[]).map some : Array (Option MapEntry)) = #[none] := by simp
   have hfe : ∀ p : MapEntry → Bool, (#[] : Array MapEntry).filter p = #[] := fun _ => rfl
   have hs1 : (#[none] : Array (Option MapEntry)).size = 1 := rfl
   simp only [ho, hfe, hcand, hs1, Sem.run_bind, hq, Sem.run_pure, Result.andThen_ok]
   rfl
 · obtain ⟨k, w', hq, h1, h2, h3, h4, h5, h6⟩ := hrunq (.mapNext left.size)
   have hpos : 0 < left.size := by
    rcases Nat.eq_zero_or_pos left.size with h0 | h0
    · exact absurd (by simpa using h0) hleft
    · exact h0
   have hk : k < left.size := by
    by_cases hf : (Question.mapNext left.size).forced = true
    · rw [h5 hf]; exact hpos
    · obtain ⟨t, rfl⟩ := h6 (by simpa using hf)
      exact Nat.mod_lt _ hpos
   have hmem : left[k] ∈ left := Array.getElem_mem hk
   have hmem2 := hmem
   simp only [left, Array.mem_filter] at hmem2
   obtain ⟨hin, hnot⟩ := hmem2
   obtain ⟨x, hxM, hxe⟩ := List.mem_map.1 (List.mem_toArray.1 hin : left[k] ∈ es)
   have hns : x.2.2 ∉ seen := by
    rw [← hxe] at hnot
    simpa using hnot
   obtain ⟨L', hu⟩ : ∃ L', Upd r (.mapIter (some b) c seen.toArray c) (.mapIter (some b) c (seen ++ [x.2.2]).toArray c) L L' := by
    clear K0 K1 H hst hrunq
    induction L with
    | nil => cases hr
    | cons y l ih =>
     rcases List.mem_cons.1 hr with rfl | hr
     · exact ⟨_, .here⟩
     · obtain ⟨L', hu⟩ := ih hr
       exact ⟨_, .there hu⟩
   have Hn := putObj_turn (hst h1 h2 h3 h4) hu
   refine step hF h hg (by simp) (v := .tuple #[.bool true, enc x.1, x.2.1]) ?_ (K1 x hxM hns _ _ L' (h.put hd _) hu Hn ?_)
   · simp only [execOp, h.eval hx, Instr.next, Sem.run_bind, hobj, Result.andThen_ok, getObj_map hm]
     have hchk' := hchk
     simp only [mapObj] at hm ⊢
     rw [if_neg (by simpa [es] using hchk')]
     have e1 : ((M.map fun x => (⟨enc x.1, x.2.1, x.2.2⟩ : MapEntry)).toArray.filter fun e => !seen.toArray.contains e.born) = left := rfl
     have hne : left.isEmpty = false := by simpa using hleft
     simp only [e1, hold, hnew, hne, Bool.false_eq_true, if_false, Array.empty_append, Array.append_empty]
     have hsz : (left.map some).size = left.size := by simp
     simp only [Sem.run_bind, Sem.run_pure, Result.andThen_ok, hsz, hq]
     have hget : (left.map some)[k]? = some (some left[k]) := by simp [hk]
     have hbr' : w'.heap[r]? = some (.mapIter (some b) c seen.toArray c) := by rw [h1]; exact hb
     simp only [hget, ← hxe]
     simp [setObj, Sem.run, hbr']
   · simp only [Array.getElem?_setIfInBounds, h1]
     rw [if_neg (fun e => hbr e.symm)]; exact hm
theorem i_entry (hF : Fd F) (h : Fr N ds T a) (H : St n0 w0 L w) (hg : guardOf T ops g = some true) {x : Operand} {b r : Nat} (hx : ev T x = some (ptr r 0)) (hm : w.heap[b]? = some (mapObj enc M c)) (hM : MapOk M c) {seen : List Nat} {y : α × Value × Nat} (hy : y ∈ M)
 (hr : (r, Obj.mapIter (some b) c (seen ++ [y.2.2]).toArray c) ∈ L) (hd : d < N) (Kt : ∀ a', Fr N ds ((d, .tuple #[enc y.1, y.2.1]) :: T) a' → wpListIn F n P ops Q rest a' w) :
 wpListIn F n P ops Q (⟨some d, .entry x, ty, ps, af, g⟩ :: rest) a w := by
 have hb := H.mem hr
 have hobj : (getObj r).run P w = .ok (.mapIter (some b) c (seen ++ [y.2.2]).toArray c) w := by simp [getObj, Sem.run, hb]
 refine step hF h hg (by simp) (v := .tuple #[enc y.1, y.2.1]) (w' := w) ?_ (Kt _ (h.put hd _))
 have hfind : (M.map fun x => (⟨enc x.1, x.2.1, x.2.2⟩ : MapEntry)).toArray.find? (fun e => e.born == y.2.2) = some ⟨enc y.1, y.2.1, y.2.2⟩ := by
  rw [List.find?_toArray]
  have : ∀ (M : Ents α), (M.map (·.2.2)).Nodup → y ∈ M → (M.map fun x => (⟨enc x.1, x.2.1, x.2.2⟩ : MapEntry)).find? (fun e => e.born == y.2.2) = some ⟨enc y.1, y.2.1, y.2.2⟩ := by
   intro M
   induction M with
   | nil => intro _ h; cases h
   | cons z l ih =>
    intro hn hy
    rw [List.map_cons, List.nodup_cons] at hn
    rw [List.map_cons, List.find?_cons]
    rcases List.mem_cons.1 hy with rfl | hy
    · simp
    · have hne : ¬ z.2.2 = y.2.2 := fun e => hn.1 (List.mem_map.2 ⟨y, hy, e.symm⟩)
      simp only [beq_eq_false_iff_ne.2 hne]
      exact ih hn.2 hy
  exact this M hM.born hy
 simp only [execOp, h.eval hx, Instr.entry, Sem.run_bind, hobj, Result.andThen_ok]
 simp [getObj_map hm, hfind]
end
end Go.Proofs.YtjlmpghcjgbfjaaGreatDoor.Ex
namespace Go.Proofs.YtjlmpghcjgbfjaaGreatDoor.Ex
open Go Go.RowKit Go.Proofs
set_option maxRecDepth 100000
instance : ZeroOf Tryz.prog 1 [.nilFunc] := ⟨.nilFunc, by kernel_rfl, rfl⟩
instance : PlainTy Tryz.prog 1 := ⟨by kernel_rfl⟩
instance : SizeIs Tryz.prog 1 1 := ⟨by kernel_rfl⟩
instance : Elem Tryz.prog 1 1 8 := Elem.of (by kernel_rfl) (by kernel_rfl) rfl (by decide)
instance : FuncTy Tryz.prog 1 := ⟨_, _, _, Tryz.underlying1⟩
instance : ZeroOf Tryz.prog 2 [.int .i64 0] := ⟨.int .i64 0, by kernel_rfl, rfl⟩
instance : PlainTy Tryz.prog 2 := ⟨by kernel_rfl⟩
instance : SizeIs Tryz.prog 2 1 := ⟨by kernel_rfl⟩
instance : Elem Tryz.prog 2 1 8 := Elem.of (by kernel_rfl) (by kernel_rfl) rfl (by decide)
instance : IntTy Tryz.prog 2 .i64 := ⟨by kernel_rfl⟩
instance : ZeroOf Tryz.prog 3 [.int .i64 0] := ⟨.int .i64 0, by kernel_rfl, rfl⟩
instance : PlainTy Tryz.prog 3 := ⟨by kernel_rfl⟩
instance : SizeIs Tryz.prog 3 1 := ⟨by kernel_rfl⟩
instance : Elem Tryz.prog 3 1 8 := Elem.of (by kernel_rfl) (by kernel_rfl) rfl (by decide)
instance : IntTy Tryz.prog 3 .i64 := ⟨by kernel_rfl⟩
instance : ZeroOf Tryz.prog 4 [.bool false] := ⟨.bool false, by kernel_rfl, rfl⟩
instance : PlainTy Tryz.prog 4 := ⟨by kernel_rfl⟩
instance : SizeIs Tryz.prog 4 1 := ⟨by kernel_rfl⟩
instance : Elem Tryz.prog 4 1 1 := Elem.of (by kernel_rfl) (by kernel_rfl) rfl (by decide)
instance : BoolTy Tryz.prog 4 := ⟨by kernel_rfl⟩
instance : ZeroOf Tryz.prog 5 [.int .u8 0] := ⟨.int .u8 0, by kernel_rfl, rfl⟩
instance : PlainTy Tryz.prog 5 := ⟨by kernel_rfl⟩
instance : SizeIs Tryz.prog 5 1 := ⟨by kernel_rfl⟩
instance : Elem Tryz.prog 5 1 1 := Elem.of (by kernel_rfl) (by kernel_rfl) rfl (by decide)
instance : IntTy Tryz.prog 5 .u8 := ⟨by kernel_rfl⟩
instance : ZeroOf Tryz.prog 6 [.int .u8 0] := ⟨.int .u8 0, by kernel_rfl, rfl⟩
instance : PlainTy Tryz.prog 6 := ⟨by kernel_rfl⟩
instance : SizeIs Tryz.prog 6 1 := ⟨by kernel_rfl⟩
instance : Elem Tryz.prog 6 1 1 := Elem.of (by kernel_rfl) (by kernel_rfl) rfl (by decide)
instance : IntTy Tryz.prog 6 .u8 := ⟨by kernel_rfl⟩
instance : ZeroOf Tryz.prog 7 [.int .i64 0, .int .i64 0, .bool false, .int .u8 0] := ⟨.agg #[.int .i64 0, .int .i64 0, .bool false, .int .u8 0], by kernel_rfl, rfl⟩
instance : AggTy Tryz.prog 7 4 := ⟨by kernel_rfl⟩
instance : SizeIs Tryz.prog 7 4 := ⟨by kernel_rfl⟩
instance : Elem Tryz.prog 7 4 24 := Elem.of (by kernel_rfl) (by kernel_rfl) rfl (by decide)
instance : FieldOff Tryz.prog 7 0 0 := ⟨by kernel_rfl⟩
instance : FieldTy Tryz.prog 7 0 2 0 := ⟨by kernel_rfl⟩
instance : FieldOff Tryz.prog 7 1 1 := ⟨by kernel_rfl⟩
instance : FieldTy Tryz.prog 7 1 3 1 := ⟨by kernel_rfl⟩
instance : FieldOff Tryz.prog 7 2 2 := ⟨by kernel_rfl⟩
instance : FieldTy Tryz.prog 7 2 4 2 := ⟨by kernel_rfl⟩
instance : FieldOff Tryz.prog 7 3 3 := ⟨by kernel_rfl⟩
instance : FieldTy Tryz.prog 7 3 6 3 := ⟨by kernel_rfl⟩
instance : StructTy Tryz.prog 7 [(0, 1), (1, 1), (2, 1), (3, 1)] := ⟨by kernel_rfl⟩
instance : ZeroOf Tryz.prog 8 [.int .i64 0, .int .i64 0, .bool false, .int .u8 0] := ⟨.agg #[.int .i64 0, .int .i64 0, .bool false, .int .u8 0], by kernel_rfl, rfl⟩
instance : AggTy Tryz.prog 8 4 := ⟨by kernel_rfl⟩
instance : SizeIs Tryz.prog 8 4 := ⟨by kernel_rfl⟩
instance : Elem Tryz.prog 8 4 24 := Elem.of (by kernel_rfl) (by kernel_rfl) rfl (by decide)
instance : FieldOff Tryz.prog 8 0 0 := ⟨by kernel_rfl⟩
instance : FieldTy Tryz.prog 8 0 2 0 := ⟨by kernel_rfl⟩
instance : FieldOff Tryz.prog 8 1 1 := ⟨by kernel_rfl⟩
instance : FieldTy Tryz.prog 8 1 3 1 := ⟨by kernel_rfl⟩
instance : FieldOff Tryz.prog 8 2 2 := ⟨by kernel_rfl⟩
instance : FieldTy Tryz.prog 8 2 4 2 := ⟨by kernel_rfl⟩
instance : FieldOff Tryz.prog 8 3 3 := ⟨by kernel_rfl⟩
instance : FieldTy Tryz.prog 8 3 6 3 := ⟨by kernel_rfl⟩
instance : StructTy Tryz.prog 8 [(0, 1), (1, 1), (2, 1), (3, 1)] := ⟨by kernel_rfl⟩
instance : ZeroOf Tryz.prog 9 [str []] := ⟨str [], by kernel_rfl, rfl⟩
instance : PlainTy Tryz.prog 9 := ⟨by kernel_rfl⟩
instance : SizeIs Tryz.prog 9 1 := ⟨by kernel_rfl⟩
instance : Elem Tryz.prog 9 1 16 := Elem.of (by kernel_rfl) (by kernel_rfl) rfl (by decide)
instance : StrTy Tryz.prog 9 := ⟨by kernel_rfl⟩
instance : ZeroOf Tryz.prog 10 [str []] := ⟨str [], by kernel_rfl, rfl⟩
instance : PlainTy Tryz.prog 10 := ⟨by kernel_rfl⟩
instance : SizeIs Tryz.prog 10 1 := ⟨by kernel_rfl⟩
instance : Elem Tryz.prog 10 1 16 := Elem.of (by kernel_rfl) (by kernel_rfl) rfl (by decide)
instance : StrTy Tryz.prog 10 := ⟨by kernel_rfl⟩
instance : ZeroOf Tryz.prog 11 [str []] := ⟨str [], by kernel_rfl, rfl⟩
instance : PlainTy Tryz.prog 11 := ⟨by kernel_rfl⟩
instance : SizeIs Tryz.prog 11 1 := ⟨by kernel_rfl⟩
instance : Elem Tryz.prog 11 1 16 := Elem.of (by kernel_rfl) (by kernel_rfl) rfl (by decide)
instance : StrTy Tryz.prog 11 := ⟨by kernel_rfl⟩
instance : ZeroOf Tryz.prog 12 [.int .u64 0] := ⟨.int .u64 0, by kernel_rfl, rfl⟩
instance : PlainTy Tryz.prog 12 := ⟨by kernel_rfl⟩
instance : SizeIs Tryz.prog 12 1 := ⟨by kernel_rfl⟩
instance : Elem Tryz.prog 12 1 8 := Elem.of (by kernel_rfl) (by kernel_rfl) rfl (by decide)
instance : IntTy Tryz.prog 12 .u64 := ⟨by kernel_rfl⟩
instance : ZeroOf Tryz.prog 13 [str [], .int .u64 0] := ⟨.agg #[str [], .int .u64 0], by kernel_rfl, rfl⟩
instance : AggTy Tryz.prog 13 2 := ⟨by kernel_rfl⟩
instance : SizeIs Tryz.prog 13 2 := ⟨by kernel_rfl⟩
instance : Elem Tryz.prog 13 2 24 := Elem.of (by kernel_rfl) (by kernel_rfl) rfl (by decide)
instance : FieldOff Tryz.prog 13 0 0 := ⟨by kernel_rfl⟩
instance : FieldTy Tryz.prog 13 0 9 0 := ⟨by kernel_rfl⟩
instance : FieldOff Tryz.prog 13 1 1 := ⟨by kernel_rfl⟩
instance : FieldTy Tryz.prog 13 1 12 1 := ⟨by kernel_rfl⟩
instance : StructTy Tryz.prog 13 [(0, 1), (1, 1)] := ⟨by kernel_rfl⟩
instance : ZeroOf Tryz.prog 14 [str [], .int .u64 0] := ⟨.agg #[str [], .int .u64 0], by kernel_rfl, rfl⟩
instance : AggTy Tryz.prog 14 2 := ⟨by kernel_rfl⟩
instance : SizeIs Tryz.prog 14 2 := ⟨by kernel_rfl⟩
instance : Elem Tryz.prog 14 2 24 := Elem.of (by kernel_rfl) (by kernel_rfl) rfl (by decide)
instance : FieldOff Tryz.prog 14 0 0 := ⟨by kernel_rfl⟩
instance : FieldTy Tryz.prog 14 0 9 0 := ⟨by kernel_rfl⟩
instance : FieldOff Tryz.prog 14 1 1 := ⟨by kernel_rfl⟩
instance : FieldTy Tryz.prog 14 1 12 1 := ⟨by kernel_rfl⟩
instance : StructTy Tryz.prog 14 [(0, 1), (1, 1)] := ⟨by kernel_rfl⟩
instance : ZeroOf Tryz.prog 15 [.pointer none] := ⟨.pointer none, by kernel_rfl, rfl⟩
instance : PlainTy Tryz.prog 15 := ⟨by kernel_rfl⟩
instance : SizeIs Tryz.prog 15 1 := ⟨by kernel_rfl⟩
instance : Elem Tryz.prog 15 1 8 := Elem.of (by kernel_rfl) (by kernel_rfl) rfl (by decide)
instance : ZeroOf Tryz.prog 16 [.pointer none] := ⟨.pointer none, by kernel_rfl, rfl⟩
instance : PlainTy Tryz.prog 16 := ⟨by kernel_rfl⟩
instance : SizeIs Tryz.prog 16 1 := ⟨by kernel_rfl⟩
instance : Elem Tryz.prog 16 1 8 := Elem.of (by kernel_rfl) (by kernel_rfl) rfl (by decide)
instance : ZeroOf Tryz.prog 17 [.pointer none] := ⟨.pointer none, by kernel_rfl, rfl⟩
instance : PlainTy Tryz.prog 17 := ⟨by kernel_rfl⟩
instance : SizeIs Tryz.prog 17 1 := ⟨by kernel_rfl⟩
instance : Elem Tryz.prog 17 1 8 := Elem.of (by kernel_rfl) (by kernel_rfl) rfl (by decide)
instance : ZeroOf Tryz.prog 18 [.pointer none] := ⟨.agg #[.pointer none], by kernel_rfl, rfl⟩
instance : AggTy Tryz.prog 18 1 := ⟨by kernel_rfl⟩
instance : SizeIs Tryz.prog 18 1 := ⟨by kernel_rfl⟩
instance : Elem Tryz.prog 18 1 8 := Elem.of (by kernel_rfl) (by kernel_rfl) rfl (by decide)
instance : FieldOff Tryz.prog 18 0 0 := ⟨by kernel_rfl⟩
instance : FieldTy Tryz.prog 18 0 17 0 := ⟨by kernel_rfl⟩
instance : StructTy Tryz.prog 18 [(0, 1)] := ⟨by kernel_rfl⟩
instance : ZeroOf Tryz.prog 19 [.pointer none] := ⟨.agg #[.pointer none], by kernel_rfl, rfl⟩
instance : AggTy Tryz.prog 19 1 := ⟨by kernel_rfl⟩
instance : SizeIs Tryz.prog 19 1 := ⟨by kernel_rfl⟩
instance : Elem Tryz.prog 19 1 8 := Elem.of (by kernel_rfl) (by kernel_rfl) rfl (by decide)
instance : FieldOff Tryz.prog 19 0 0 := ⟨by kernel_rfl⟩
instance : FieldTy Tryz.prog 19 0 17 0 := ⟨by kernel_rfl⟩
instance : StructTy Tryz.prog 19 [(0, 1)] := ⟨by kernel_rfl⟩
instance : ZeroOf Tryz.prog 20 [.nilIface] := ⟨.nilIface, by kernel_rfl, rfl⟩
instance : PlainTy Tryz.prog 20 := ⟨by kernel_rfl⟩
instance : SizeIs Tryz.prog 20 1 := ⟨by kernel_rfl⟩
instance : Elem Tryz.prog 20 1 16 := Elem.of (by kernel_rfl) (by kernel_rfl) rfl (by decide)
instance : ZeroOf Tryz.prog 21 [.int .i32 0] := ⟨.int .i32 0, by kernel_rfl, rfl⟩
instance : PlainTy Tryz.prog 21 := ⟨by kernel_rfl⟩
instance : SizeIs Tryz.prog 21 1 := ⟨by kernel_rfl⟩
instance : Elem Tryz.prog 21 1 4 := Elem.of (by kernel_rfl) (by kernel_rfl) rfl (by decide)
instance : IntTy Tryz.prog 21 .i32 := ⟨by kernel_rfl⟩
instance : ZeroOf Tryz.prog 22 [.slice none 0 0] := ⟨.slice none 0 0, by kernel_rfl, rfl⟩
instance : PlainTy Tryz.prog 22 := ⟨by kernel_rfl⟩
instance : SizeIs Tryz.prog 22 1 := ⟨by kernel_rfl⟩
instance : Elem Tryz.prog 22 1 24 := Elem.of (by kernel_rfl) (by kernel_rfl) rfl (by decide)
instance : SliceTy Tryz.prog 22 5 := ⟨by kernel_rfl⟩
instance : ZeroOf Tryz.prog 23 [.nilFunc] := ⟨.nilFunc, by kernel_rfl, rfl⟩
instance : PlainTy Tryz.prog 23 := ⟨by kernel_rfl⟩
instance : SizeIs Tryz.prog 23 1 := ⟨by kernel_rfl⟩
instance : Elem Tryz.prog 23 1 8 := Elem.of (by kernel_rfl) (by kernel_rfl) rfl (by decide)
instance : FuncTy Tryz.prog 23 := ⟨_, _, _, Tryz.underlying23⟩
instance : ZeroOf Tryz.prog 24 [.slice none 0 0] := ⟨.slice none 0 0, by kernel_rfl, rfl⟩
instance : PlainTy Tryz.prog 24 := ⟨by kernel_rfl⟩
instance : SizeIs Tryz.prog 24 1 := ⟨by kernel_rfl⟩
instance : Elem Tryz.prog 24 1 24 := Elem.of (by kernel_rfl) (by kernel_rfl) rfl (by decide)
instance : SliceTy Tryz.prog 24 3 := ⟨by kernel_rfl⟩
instance : ZeroOf Tryz.prog 25 [.nilFunc] := ⟨.nilFunc, by kernel_rfl, rfl⟩
instance : PlainTy Tryz.prog 25 := ⟨by kernel_rfl⟩
instance : SizeIs Tryz.prog 25 1 := ⟨by kernel_rfl⟩
instance : Elem Tryz.prog 25 1 8 := Elem.of (by kernel_rfl) (by kernel_rfl) rfl (by decide)
instance : FuncTy Tryz.prog 25 := ⟨_, _, _, Tryz.underlying25⟩
instance : ZeroOf Tryz.prog 26 [.nilFunc] := ⟨.nilFunc, by kernel_rfl, rfl⟩
instance : PlainTy Tryz.prog 26 := ⟨by kernel_rfl⟩
instance : SizeIs Tryz.prog 26 1 := ⟨by kernel_rfl⟩
instance : Elem Tryz.prog 26 1 8 := Elem.of (by kernel_rfl) (by kernel_rfl) rfl (by decide)
instance : FuncTy Tryz.prog 26 := ⟨_, _, _, Tryz.underlying26⟩
instance : ZeroOf Tryz.prog 27 [.nilFunc] := ⟨.nilFunc, by kernel_rfl, rfl⟩
instance : PlainTy Tryz.prog 27 := ⟨by kernel_rfl⟩
instance : SizeIs Tryz.prog 27 1 := ⟨by kernel_rfl⟩
instance : Elem Tryz.prog 27 1 8 := Elem.of (by kernel_rfl) (by kernel_rfl) rfl (by decide)
instance : FuncTy Tryz.prog 27 := ⟨_, _, _, Tryz.underlying27⟩
instance : ZeroOf Tryz.prog 28 [.nilFunc] := ⟨.nilFunc, by kernel_rfl, rfl⟩
instance : PlainTy Tryz.prog 28 := ⟨by kernel_rfl⟩
instance : SizeIs Tryz.prog 28 1 := ⟨by kernel_rfl⟩
instance : Elem Tryz.prog 28 1 8 := Elem.of (by kernel_rfl) (by kernel_rfl) rfl (by decide)
instance : FuncTy Tryz.prog 28 := ⟨_, _, _, Tryz.underlying28⟩
instance : ZeroOf Tryz.prog 29 [.nilFunc] := ⟨.nilFunc, by kernel_rfl, rfl⟩
instance : PlainTy Tryz.prog 29 := ⟨by kernel_rfl⟩
instance : SizeIs Tryz.prog 29 1 := ⟨by kernel_rfl⟩
instance : Elem Tryz.prog 29 1 8 := Elem.of (by kernel_rfl) (by kernel_rfl) rfl (by decide)
instance : FuncTy Tryz.prog 29 := ⟨_, _, _, Tryz.underlying29⟩
instance : ZeroOf Tryz.prog 30 [.nilFunc] := ⟨.nilFunc, by kernel_rfl, rfl⟩
instance : PlainTy Tryz.prog 30 := ⟨by kernel_rfl⟩
instance : SizeIs Tryz.prog 30 1 := ⟨by kernel_rfl⟩
instance : Elem Tryz.prog 30 1 8 := Elem.of (by kernel_rfl) (by kernel_rfl) rfl (by decide)
instance : FuncTy Tryz.prog 30 := ⟨_, _, _, Tryz.underlying30⟩
instance : ZeroOf Tryz.prog 31 [.int .i64 0] := ⟨.int .i64 0, by kernel_rfl, rfl⟩
instance : PlainTy Tryz.prog 31 := ⟨by kernel_rfl⟩
instance : SizeIs Tryz.prog 31 1 := ⟨by kernel_rfl⟩
instance : Elem Tryz.prog 31 1 8 := Elem.of (by kernel_rfl) (by kernel_rfl) rfl (by decide)
instance : IntTy Tryz.prog 31 .i64 := ⟨by kernel_rfl⟩
instance : ZeroOf Tryz.prog 33 [.nilFunc] := ⟨.nilFunc, by kernel_rfl, rfl⟩
instance : PlainTy Tryz.prog 33 := ⟨by kernel_rfl⟩
instance : SizeIs Tryz.prog 33 1 := ⟨by kernel_rfl⟩
instance : Elem Tryz.prog 33 1 8 := Elem.of (by kernel_rfl) (by kernel_rfl) rfl (by decide)
instance : FuncTy Tryz.prog 33 := ⟨_, _, _, Tryz.underlying33⟩
instance : ZeroOf Tryz.prog 35 [.nilFunc] := ⟨.nilFunc, by kernel_rfl, rfl⟩
instance : PlainTy Tryz.prog 35 := ⟨by kernel_rfl⟩
instance : SizeIs Tryz.prog 35 1 := ⟨by kernel_rfl⟩
instance : Elem Tryz.prog 35 1 8 := Elem.of (by kernel_rfl) (by kernel_rfl) rfl (by decide)
instance : FuncTy Tryz.prog 35 := ⟨_, _, _, Tryz.underlying35⟩
instance : ZeroOf Tryz.prog 36 [.nilFunc] := ⟨.nilFunc, by kernel_rfl, rfl⟩
instance : PlainTy Tryz.prog 36 := ⟨by kernel_rfl⟩
instance : SizeIs Tryz.prog 36 1 := ⟨by kernel_rfl⟩
instance : Elem Tryz.prog 36 1 8 := Elem.of (by kernel_rfl) (by kernel_rfl) rfl (by decide)
instance : FuncTy Tryz.prog 36 := ⟨_, _, _, Tryz.underlying36⟩
instance : ZeroOf Tryz.prog 37 [.nilFunc] := ⟨.nilFunc, by kernel_rfl, rfl⟩
instance : PlainTy Tryz.prog 37 := ⟨by kernel_rfl⟩
instance : SizeIs Tryz.prog 37 1 := ⟨by kernel_rfl⟩
instance : Elem Tryz.prog 37 1 8 := Elem.of (by kernel_rfl) (by kernel_rfl) rfl (by decide)
instance : FuncTy Tryz.prog 37 := ⟨_, _, _, Tryz.underlying37⟩
instance : ZeroOf Tryz.prog 38 [.nilFunc] := ⟨.nilFunc, by kernel_rfl, rfl⟩
instance : PlainTy Tryz.prog 38 := ⟨by kernel_rfl⟩
instance : SizeIs Tryz.prog 38 1 := ⟨by kernel_rfl⟩
instance : Elem Tryz.prog 38 1 8 := Elem.of (by kernel_rfl) (by kernel_rfl) rfl (by decide)
instance : FuncTy Tryz.prog 38 := ⟨_, _, _, Tryz.underlying38⟩
instance : ZeroOf Tryz.prog 39 [.map none] := ⟨.map none, by kernel_rfl, rfl⟩
instance : PlainTy Tryz.prog 39 := ⟨by kernel_rfl⟩
instance : SizeIs Tryz.prog 39 1 := ⟨by kernel_rfl⟩
instance : Elem Tryz.prog 39 1 8 := Elem.of (by kernel_rfl) (by kernel_rfl) rfl (by decide)
instance : MapTy Tryz.prog 39 3 3 := ⟨by kernel_rfl⟩
instance : ZeroOf Tryz.prog 40 [.int .u64 0] := ⟨.int .u64 0, by kernel_rfl, rfl⟩
instance : PlainTy Tryz.prog 40 := ⟨by kernel_rfl⟩
instance : SizeIs Tryz.prog 40 1 := ⟨by kernel_rfl⟩
instance : Elem Tryz.prog 40 1 8 := Elem.of (by kernel_rfl) (by kernel_rfl) rfl (by decide)
instance : IntTy Tryz.prog 40 .u64 := ⟨by kernel_rfl⟩
instance : ZeroOf Tryz.prog 41 [str [], .int .i64 0, .int .i64 0, .int .u64 0, .bool false, .int .i64 0] := ⟨.agg #[str [], .int .i64 0, .int .i64 0, .int .u64 0, .bool false, .int .i64 0], by kernel_rfl, rfl⟩
instance : AggTy Tryz.prog 41 6 := ⟨by kernel_rfl⟩
instance : SizeIs Tryz.prog 41 6 := ⟨by kernel_rfl⟩
instance : Elem Tryz.prog 41 6 56 := Elem.of (by kernel_rfl) (by kernel_rfl) rfl (by decide)
instance : FieldOff Tryz.prog 41 0 0 := ⟨by kernel_rfl⟩
instance : FieldTy Tryz.prog 41 0 9 0 := ⟨by kernel_rfl⟩
instance : FieldOff Tryz.prog 41 1 1 := ⟨by kernel_rfl⟩
instance : FieldTy Tryz.prog 41 1 3 1 := ⟨by kernel_rfl⟩
instance : FieldOff Tryz.prog 41 2 2 := ⟨by kernel_rfl⟩
instance : FieldTy Tryz.prog 41 2 3 2 := ⟨by kernel_rfl⟩
instance : FieldOff Tryz.prog 41 3 3 := ⟨by kernel_rfl⟩
instance : FieldTy Tryz.prog 41 3 40 3 := ⟨by kernel_rfl⟩
instance : FieldOff Tryz.prog 41 4 4 := ⟨by kernel_rfl⟩
instance : FieldTy Tryz.prog 41 4 4 4 := ⟨by kernel_rfl⟩
instance : FieldOff Tryz.prog 41 5 5 := ⟨by kernel_rfl⟩
instance : FieldTy Tryz.prog 41 5 3 5 := ⟨by kernel_rfl⟩
instance : StructTy Tryz.prog 41 [(0, 1), (1, 1), (2, 1), (3, 1), (4, 1), (5, 1)] := ⟨by kernel_rfl⟩
instance : ZeroOf Tryz.prog 42 [str [], .int .i64 0, .int .i64 0, .int .u64 0, .bool false, .int .i64 0] := ⟨.agg #[str [], .int .i64 0, .int .i64 0, .int .u64 0, .bool false, .int .i64 0], by kernel_rfl, rfl⟩
instance : AggTy Tryz.prog 42 6 := ⟨by kernel_rfl⟩
instance : SizeIs Tryz.prog 42 6 := ⟨by kernel_rfl⟩
instance : Elem Tryz.prog 42 6 56 := Elem.of (by kernel_rfl) (by kernel_rfl) rfl (by decide)
instance : FieldOff Tryz.prog 42 0 0 := ⟨by kernel_rfl⟩
instance : FieldTy Tryz.prog 42 0 9 0 := ⟨by kernel_rfl⟩
instance : FieldOff Tryz.prog 42 1 1 := ⟨by kernel_rfl⟩
instance : FieldTy Tryz.prog 42 1 3 1 := ⟨by kernel_rfl⟩
instance : FieldOff Tryz.prog 42 2 2 := ⟨by kernel_rfl⟩
instance : FieldTy Tryz.prog 42 2 3 2 := ⟨by kernel_rfl⟩
instance : FieldOff Tryz.prog 42 3 3 := ⟨by kernel_rfl⟩
instance : FieldTy Tryz.prog 42 3 40 3 := ⟨by kernel_rfl⟩
instance : FieldOff Tryz.prog 42 4 4 := ⟨by kernel_rfl⟩
instance : FieldTy Tryz.prog 42 4 4 4 := ⟨by kernel_rfl⟩
instance : FieldOff Tryz.prog 42 5 5 := ⟨by kernel_rfl⟩
instance : FieldTy Tryz.prog 42 5 3 5 := ⟨by kernel_rfl⟩
instance : StructTy Tryz.prog 42 [(0, 1), (1, 1), (2, 1), (3, 1), (4, 1), (5, 1)] := ⟨by kernel_rfl⟩
instance : ZeroOf Tryz.prog 44 [.nilFunc] := ⟨.nilFunc, by kernel_rfl, rfl⟩
instance : PlainTy Tryz.prog 44 := ⟨by kernel_rfl⟩
instance : SizeIs Tryz.prog 44 1 := ⟨by kernel_rfl⟩
instance : Elem Tryz.prog 44 1 8 := Elem.of (by kernel_rfl) (by kernel_rfl) rfl (by decide)
instance : FuncTy Tryz.prog 44 := ⟨_, _, _, Tryz.underlying44⟩
instance : ZeroOf Tryz.prog 46 [.nilFunc] := ⟨.nilFunc, by kernel_rfl, rfl⟩
instance : PlainTy Tryz.prog 46 := ⟨by kernel_rfl⟩
instance : SizeIs Tryz.prog 46 1 := ⟨by kernel_rfl⟩
instance : Elem Tryz.prog 46 1 8 := Elem.of (by kernel_rfl) (by kernel_rfl) rfl (by decide)
instance : FuncTy Tryz.prog 46 := ⟨_, _, _, Tryz.underlying46⟩
instance : ZeroOf Tryz.prog 47 [.int .u64 0, .int .u64 0, .int .u64 0, .int .u64 0] := ⟨.agg #[.int .u64 0, .int .u64 0, .int .u64 0, .int .u64 0], by kernel_rfl, rfl⟩
instance : AggTy Tryz.prog 47 4 := ⟨by kernel_rfl⟩
instance : SizeIs Tryz.prog 47 4 := ⟨by kernel_rfl⟩
instance : Elem Tryz.prog 47 4 32 := Elem.of (by kernel_rfl) (by kernel_rfl) rfl (by decide)
instance : ArrTy Tryz.prog 47 4 40 := ⟨by kernel_rfl⟩
instance : ZeroOf Tryz.prog 48 [.int .u64 0, .int .u64 0, .int .u64 0, .int .u64 0] := ⟨.agg #[.int .u64 0, .int .u64 0, .int .u64 0, .int .u64 0], by kernel_rfl, rfl⟩
instance : AggTy Tryz.prog 48 4 := ⟨by kernel_rfl⟩
instance : SizeIs Tryz.prog 48 4 := ⟨by kernel_rfl⟩
instance : Elem Tryz.prog 48 4 32 := Elem.of (by kernel_rfl) (by kernel_rfl) rfl (by decide)
instance : ArrTy Tryz.prog 48 4 40 := ⟨by kernel_rfl⟩
instance : ZeroOf Tryz.prog 50 [.nilFunc] := ⟨.nilFunc, by kernel_rfl, rfl⟩
instance : PlainTy Tryz.prog 50 := ⟨by kernel_rfl⟩
instance : SizeIs Tryz.prog 50 1 := ⟨by kernel_rfl⟩
instance : Elem Tryz.prog 50 1 8 := Elem.of (by kernel_rfl) (by kernel_rfl) rfl (by decide)
instance : FuncTy Tryz.prog 50 := ⟨_, _, _, Tryz.underlying50⟩
instance : ZeroOf Tryz.prog 51 [.nilFunc] := ⟨.nilFunc, by kernel_rfl, rfl⟩
instance : PlainTy Tryz.prog 51 := ⟨by kernel_rfl⟩
instance : SizeIs Tryz.prog 51 1 := ⟨by kernel_rfl⟩
instance : Elem Tryz.prog 51 1 8 := Elem.of (by kernel_rfl) (by kernel_rfl) rfl (by decide)
instance : FuncTy Tryz.prog 51 := ⟨_, _, _, Tryz.underlying51⟩
instance : ZeroOf Tryz.prog 52 [.nilFunc] := ⟨.nilFunc, by kernel_rfl, rfl⟩
instance : PlainTy Tryz.prog 52 := ⟨by kernel_rfl⟩
instance : SizeIs Tryz.prog 52 1 := ⟨by kernel_rfl⟩
instance : Elem Tryz.prog 52 1 8 := Elem.of (by kernel_rfl) (by kernel_rfl) rfl (by decide)
instance : FuncTy Tryz.prog 52 := ⟨_, _, _, Tryz.underlying52⟩
instance : ZeroOf Tryz.prog 53 [.nilFunc] := ⟨.nilFunc, by kernel_rfl, rfl⟩
instance : PlainTy Tryz.prog 53 := ⟨by kernel_rfl⟩
instance : SizeIs Tryz.prog 53 1 := ⟨by kernel_rfl⟩
instance : Elem Tryz.prog 53 1 8 := Elem.of (by kernel_rfl) (by kernel_rfl) rfl (by decide)
instance : FuncTy Tryz.prog 53 := ⟨_, _, _, Tryz.underlying53⟩
instance : ZeroOf Tryz.prog 54 [.nilFunc] := ⟨.nilFunc, by kernel_rfl, rfl⟩
instance : PlainTy Tryz.prog 54 := ⟨by kernel_rfl⟩
instance : SizeIs Tryz.prog 54 1 := ⟨by kernel_rfl⟩
instance : Elem Tryz.prog 54 1 8 := Elem.of (by kernel_rfl) (by kernel_rfl) rfl (by decide)
instance : FuncTy Tryz.prog 54 := ⟨_, _, _, Tryz.underlying54⟩
instance : ZeroOf Tryz.prog 55 [.slice none 0 0] := ⟨.slice none 0 0, by kernel_rfl, rfl⟩
instance : PlainTy Tryz.prog 55 := ⟨by kernel_rfl⟩
instance : SizeIs Tryz.prog 55 1 := ⟨by kernel_rfl⟩
instance : Elem Tryz.prog 55 1 24 := Elem.of (by kernel_rfl) (by kernel_rfl) rfl (by decide)
instance : SliceTy Tryz.prog 55 9 := ⟨by kernel_rfl⟩
instance : ZeroOf Tryz.prog 56 [.map none] := ⟨.map none, by kernel_rfl, rfl⟩
instance : PlainTy Tryz.prog 56 := ⟨by kernel_rfl⟩
instance : SizeIs Tryz.prog 56 1 := ⟨by kernel_rfl⟩
instance : Elem Tryz.prog 56 1 8 := Elem.of (by kernel_rfl) (by kernel_rfl) rfl (by decide)
instance : MapTy Tryz.prog 56 5 42 := ⟨by kernel_rfl⟩
instance : ZeroOf Tryz.prog 57 [.nilFunc] := ⟨.nilFunc, by kernel_rfl, rfl⟩
instance : PlainTy Tryz.prog 57 := ⟨by kernel_rfl⟩
instance : SizeIs Tryz.prog 57 1 := ⟨by kernel_rfl⟩
instance : Elem Tryz.prog 57 1 8 := Elem.of (by kernel_rfl) (by kernel_rfl) rfl (by decide)
instance : FuncTy Tryz.prog 57 := ⟨_, _, _, Tryz.underlying57⟩
instance : ZeroOf Tryz.prog 58 [.nilFunc] := ⟨.nilFunc, by kernel_rfl, rfl⟩
instance : PlainTy Tryz.prog 58 := ⟨by kernel_rfl⟩
instance : SizeIs Tryz.prog 58 1 := ⟨by kernel_rfl⟩
instance : Elem Tryz.prog 58 1 8 := Elem.of (by kernel_rfl) (by kernel_rfl) rfl (by decide)
instance : FuncTy Tryz.prog 58 := ⟨_, _, _, Tryz.underlying58⟩
instance : ZeroOf Tryz.prog 59 [.nilFunc] := ⟨.nilFunc, by kernel_rfl, rfl⟩
instance : PlainTy Tryz.prog 59 := ⟨by kernel_rfl⟩
instance : SizeIs Tryz.prog 59 1 := ⟨by kernel_rfl⟩
instance : Elem Tryz.prog 59 1 8 := Elem.of (by kernel_rfl) (by kernel_rfl) rfl (by decide)
instance : FuncTy Tryz.prog 59 := ⟨_, _, _, Tryz.underlying59⟩
instance : ZeroOf Tryz.prog 60 [.nilFunc] := ⟨.nilFunc, by kernel_rfl, rfl⟩
instance : PlainTy Tryz.prog 60 := ⟨by kernel_rfl⟩
instance : SizeIs Tryz.prog 60 1 := ⟨by kernel_rfl⟩
instance : Elem Tryz.prog 60 1 8 := Elem.of (by kernel_rfl) (by kernel_rfl) rfl (by decide)
instance : FuncTy Tryz.prog 60 := ⟨_, _, _, Tryz.underlying60⟩
instance : ZeroOf Tryz.prog 61 [.nilFunc] := ⟨.nilFunc, by kernel_rfl, rfl⟩
instance : PlainTy Tryz.prog 61 := ⟨by kernel_rfl⟩
instance : SizeIs Tryz.prog 61 1 := ⟨by kernel_rfl⟩
instance : Elem Tryz.prog 61 1 8 := Elem.of (by kernel_rfl) (by kernel_rfl) rfl (by decide)
instance : FuncTy Tryz.prog 61 := ⟨_, _, _, Tryz.underlying61⟩
instance : ZeroOf Tryz.prog 62 [.pointer none] := ⟨.pointer none, by kernel_rfl, rfl⟩
instance : PlainTy Tryz.prog 62 := ⟨by kernel_rfl⟩
instance : SizeIs Tryz.prog 62 1 := ⟨by kernel_rfl⟩
instance : Elem Tryz.prog 62 1 8 := Elem.of (by kernel_rfl) (by kernel_rfl) rfl (by decide)
instance : ZeroOf Tryz.prog 63 [.nilFunc] := ⟨.nilFunc, by kernel_rfl, rfl⟩
instance : PlainTy Tryz.prog 63 := ⟨by kernel_rfl⟩
instance : SizeIs Tryz.prog 63 1 := ⟨by kernel_rfl⟩
instance : Elem Tryz.prog 63 1 8 := Elem.of (by kernel_rfl) (by kernel_rfl) rfl (by decide)
instance : FuncTy Tryz.prog 63 := ⟨_, _, _, Tryz.underlying63⟩
instance : ZeroOf Tryz.prog 64 [.map none] := ⟨.map none, by kernel_rfl, rfl⟩
instance : PlainTy Tryz.prog 64 := ⟨by kernel_rfl⟩
instance : SizeIs Tryz.prog 64 1 := ⟨by kernel_rfl⟩
instance : Elem Tryz.prog 64 1 8 := Elem.of (by kernel_rfl) (by kernel_rfl) rfl (by decide)
instance : MapTy Tryz.prog 64 9 5 := ⟨by kernel_rfl⟩
instance : ZeroOf Tryz.prog 65 [.pointer none] := ⟨.pointer none, by kernel_rfl, rfl⟩
instance : PlainTy Tryz.prog 65 := ⟨by kernel_rfl⟩
instance : SizeIs Tryz.prog 65 1 := ⟨by kernel_rfl⟩
instance : Elem Tryz.prog 65 1 8 := Elem.of (by kernel_rfl) (by kernel_rfl) rfl (by decide)
instance : ZeroOf Tryz.prog 66 [.nilFunc] := ⟨.nilFunc, by kernel_rfl, rfl⟩
instance : PlainTy Tryz.prog 66 := ⟨by kernel_rfl⟩
instance : SizeIs Tryz.prog 66 1 := ⟨by kernel_rfl⟩
instance : Elem Tryz.prog 66 1 8 := Elem.of (by kernel_rfl) (by kernel_rfl) rfl (by decide)
instance : FuncTy Tryz.prog 66 := ⟨_, _, _, Tryz.underlying66⟩
instance : ZeroOf Tryz.prog 67 [.slice none 0 0] := ⟨.agg #[.slice none 0 0], by kernel_rfl, rfl⟩
instance : AggTy Tryz.prog 67 1 := ⟨by kernel_rfl⟩
instance : SizeIs Tryz.prog 67 1 := ⟨by kernel_rfl⟩
instance : Elem Tryz.prog 67 1 24 := Elem.of (by kernel_rfl) (by kernel_rfl) rfl (by decide)
instance : FieldOff Tryz.prog 67 0 0 := ⟨by kernel_rfl⟩
instance : FieldTy Tryz.prog 67 0 55 0 := ⟨by kernel_rfl⟩
instance : StructTy Tryz.prog 67 [(0, 1)] := ⟨by kernel_rfl⟩
instance : ZeroOf Tryz.prog 68 [.slice none 0 0] := ⟨.agg #[.slice none 0 0], by kernel_rfl, rfl⟩
instance : AggTy Tryz.prog 68 1 := ⟨by kernel_rfl⟩
instance : SizeIs Tryz.prog 68 1 := ⟨by kernel_rfl⟩
instance : Elem Tryz.prog 68 1 24 := Elem.of (by kernel_rfl) (by kernel_rfl) rfl (by decide)
instance : FieldOff Tryz.prog 68 0 0 := ⟨by kernel_rfl⟩
instance : FieldTy Tryz.prog 68 0 55 0 := ⟨by kernel_rfl⟩
instance : StructTy Tryz.prog 68 [(0, 1)] := ⟨by kernel_rfl⟩
instance : ZeroOf Tryz.prog 69 [.slice none 0 0] := ⟨.agg #[.slice none 0 0], by kernel_rfl, rfl⟩
instance : AggTy Tryz.prog 69 1 := ⟨by kernel_rfl⟩
instance : SizeIs Tryz.prog 69 1 := ⟨by kernel_rfl⟩
instance : Elem Tryz.prog 69 1 24 := Elem.of (by kernel_rfl) (by kernel_rfl) rfl (by decide)
instance : FieldOff Tryz.prog 69 0 0 := ⟨by kernel_rfl⟩
instance : FieldTy Tryz.prog 69 0 68 0 := ⟨by kernel_rfl⟩
instance : StructTy Tryz.prog 69 [(0, 1)] := ⟨by kernel_rfl⟩
instance : ZeroOf Tryz.prog 70 [.slice none 0 0] := ⟨.agg #[.slice none 0 0], by kernel_rfl, rfl⟩
instance : AggTy Tryz.prog 70 1 := ⟨by kernel_rfl⟩
instance : SizeIs Tryz.prog 70 1 := ⟨by kernel_rfl⟩
instance : Elem Tryz.prog 70 1 24 := Elem.of (by kernel_rfl) (by kernel_rfl) rfl (by decide)
instance : FieldOff Tryz.prog 70 0 0 := ⟨by kernel_rfl⟩
instance : FieldTy Tryz.prog 70 0 68 0 := ⟨by kernel_rfl⟩
instance : StructTy Tryz.prog 70 [(0, 1)] := ⟨by kernel_rfl⟩
instance : ZeroOf Tryz.prog 71 [.nilFunc] := ⟨.nilFunc, by kernel_rfl, rfl⟩
instance : PlainTy Tryz.prog 71 := ⟨by kernel_rfl⟩
instance : SizeIs Tryz.prog 71 1 := ⟨by kernel_rfl⟩
instance : Elem Tryz.prog 71 1 8 := Elem.of (by kernel_rfl) (by kernel_rfl) rfl (by decide)
instance : FuncTy Tryz.prog 71 := ⟨_, _, _, Tryz.underlying71⟩
instance : ZeroOf Tryz.prog 72 [.nilFunc] := ⟨.nilFunc, by kernel_rfl, rfl⟩
instance : PlainTy Tryz.prog 72 := ⟨by kernel_rfl⟩
instance : SizeIs Tryz.prog 72 1 := ⟨by kernel_rfl⟩
instance : Elem Tryz.prog 72 1 8 := Elem.of (by kernel_rfl) (by kernel_rfl) rfl (by decide)
instance : FuncTy Tryz.prog 72 := ⟨_, _, _, Tryz.underlying72⟩
instance : ZeroOf Tryz.prog 73 [.nilFunc] := ⟨.nilFunc, by kernel_rfl, rfl⟩
instance : PlainTy Tryz.prog 73 := ⟨by kernel_rfl⟩
instance : SizeIs Tryz.prog 73 1 := ⟨by kernel_rfl⟩
instance : Elem Tryz.prog 73 1 8 := Elem.of (by kernel_rfl) (by kernel_rfl) rfl (by decide)
instance : FuncTy Tryz.prog 73 := ⟨_, _, _, Tryz.underlying73⟩
instance : ZeroOf Tryz.prog 75 [.nilFunc] := ⟨.nilFunc, by kernel_rfl, rfl⟩
instance : PlainTy Tryz.prog 75 := ⟨by kernel_rfl⟩
instance : SizeIs Tryz.prog 75 1 := ⟨by kernel_rfl⟩
instance : Elem Tryz.prog 75 1 8 := Elem.of (by kernel_rfl) (by kernel_rfl) rfl (by decide)
instance : FuncTy Tryz.prog 75 := ⟨_, _, _, Tryz.underlying75⟩
instance : ZeroOf Tryz.prog 76 [.int .u8 0, str [], .int .i64 0, .int .i64 0, .int .u64 0, .bool false, .int .i64 0] := ⟨.agg #[.int .u8 0, str [], .int .i64 0, .int .i64 0, .int .u64 0, .bool false, .int .i64 0], by kernel_rfl, rfl⟩
instance : AggTy Tryz.prog 76 7 := ⟨by kernel_rfl⟩
instance : SizeIs Tryz.prog 76 7 := ⟨by kernel_rfl⟩
instance : Elem Tryz.prog 76 7 64 := Elem.of (by kernel_rfl) (by kernel_rfl) rfl (by decide)
instance : FieldOff Tryz.prog 76 0 0 := ⟨by kernel_rfl⟩
instance : FieldTy Tryz.prog 76 0 5 0 := ⟨by kernel_rfl⟩
instance : FieldOff Tryz.prog 76 1 1 := ⟨by kernel_rfl⟩
instance : FieldTy Tryz.prog 76 1 42 1 := ⟨by kernel_rfl⟩
instance : StructTy Tryz.prog 76 [(0, 1), (1, 6)] := ⟨by kernel_rfl⟩
instance : ZeroOf Tryz.prog 77 [.int .u8 0, str [], .int .i64 0, .int .i64 0, .int .u64 0, .bool false, .int .i64 0] := ⟨.agg #[.int .u8 0, str [], .int .i64 0, .int .i64 0, .int .u64 0, .bool false, .int .i64 0], by kernel_rfl, rfl⟩
instance : AggTy Tryz.prog 77 7 := ⟨by kernel_rfl⟩
instance : SizeIs Tryz.prog 77 7 := ⟨by kernel_rfl⟩
instance : Elem Tryz.prog 77 7 64 := Elem.of (by kernel_rfl) (by kernel_rfl) rfl (by decide)
instance : FieldOff Tryz.prog 77 0 0 := ⟨by kernel_rfl⟩
instance : FieldTy Tryz.prog 77 0 5 0 := ⟨by kernel_rfl⟩
instance : FieldOff Tryz.prog 77 1 1 := ⟨by kernel_rfl⟩
instance : FieldTy Tryz.prog 77 1 42 1 := ⟨by kernel_rfl⟩
instance : StructTy Tryz.prog 77 [(0, 1), (1, 6)] := ⟨by kernel_rfl⟩
instance : AggTy Tryz.prog 78 525 := ⟨by kernel_rfl⟩
instance : SizeIs Tryz.prog 78 525 := ⟨by kernel_rfl⟩
instance : ArrTy Tryz.prog 78 75 77 := ⟨by kernel_rfl⟩
instance : ZeroOf Tryz.prog 79 [.nilFunc] := ⟨.nilFunc, by kernel_rfl, rfl⟩
instance : PlainTy Tryz.prog 79 := ⟨by kernel_rfl⟩
instance : SizeIs Tryz.prog 79 1 := ⟨by kernel_rfl⟩
instance : Elem Tryz.prog 79 1 8 := Elem.of (by kernel_rfl) (by kernel_rfl) rfl (by decide)
instance : FuncTy Tryz.prog 79 := ⟨_, _, _, Tryz.underlying79⟩
instance : ZeroOf Tryz.prog 80 [.map none] := ⟨.map none, by kernel_rfl, rfl⟩
instance : PlainTy Tryz.prog 80 := ⟨by kernel_rfl⟩
instance : SizeIs Tryz.prog 80 1 := ⟨by kernel_rfl⟩
instance : Elem Tryz.prog 80 1 8 := Elem.of (by kernel_rfl) (by kernel_rfl) rfl (by decide)
instance : MapTy Tryz.prog 80 9 84 := ⟨by kernel_rfl⟩
instance : ZeroOf Tryz.prog 81 [.nilFunc] := ⟨.nilFunc, by kernel_rfl, rfl⟩
instance : PlainTy Tryz.prog 81 := ⟨by kernel_rfl⟩
instance : SizeIs Tryz.prog 81 1 := ⟨by kernel_rfl⟩
instance : Elem Tryz.prog 81 1 8 := Elem.of (by kernel_rfl) (by kernel_rfl) rfl (by decide)
instance : FuncTy Tryz.prog 81 := ⟨_, _, _, Tryz.underlying81⟩
instance : ZeroOf Tryz.prog 82 [.nilFunc] := ⟨.nilFunc, by kernel_rfl, rfl⟩
instance : PlainTy Tryz.prog 82 := ⟨by kernel_rfl⟩
instance : SizeIs Tryz.prog 82 1 := ⟨by kernel_rfl⟩
instance : Elem Tryz.prog 82 1 8 := Elem.of (by kernel_rfl) (by kernel_rfl) rfl (by decide)
instance : FuncTy Tryz.prog 82 := ⟨_, _, _, Tryz.underlying82⟩
instance : ZeroOf Tryz.prog 83 [.int .i64 0, .int .i64 0, .nilFunc] := ⟨.agg #[.int .i64 0, .int .i64 0, .nilFunc], by kernel_rfl, rfl⟩
instance : AggTy Tryz.prog 83 3 := ⟨by kernel_rfl⟩
instance : SizeIs Tryz.prog 83 3 := ⟨by kernel_rfl⟩
instance : Elem Tryz.prog 83 3 24 := Elem.of (by kernel_rfl) (by kernel_rfl) rfl (by decide)
instance : FieldOff Tryz.prog 83 0 0 := ⟨by kernel_rfl⟩
instance : FieldTy Tryz.prog 83 0 3 0 := ⟨by kernel_rfl⟩
instance : FieldOff Tryz.prog 83 1 1 := ⟨by kernel_rfl⟩
instance : FieldTy Tryz.prog 83 1 3 1 := ⟨by kernel_rfl⟩
instance : FieldOff Tryz.prog 83 2 2 := ⟨by kernel_rfl⟩
instance : FieldTy Tryz.prog 83 2 82 2 := ⟨by kernel_rfl⟩
instance : StructTy Tryz.prog 83 [(0, 1), (1, 1), (2, 1)] := ⟨by kernel_rfl⟩
instance : ZeroOf Tryz.prog 84 [.int .i64 0, .int .i64 0, .nilFunc] := ⟨.agg #[.int .i64 0, .int .i64 0, .nilFunc], by kernel_rfl, rfl⟩
instance : AggTy Tryz.prog 84 3 := ⟨by kernel_rfl⟩
instance : SizeIs Tryz.prog 84 3 := ⟨by kernel_rfl⟩
instance : Elem Tryz.prog 84 3 24 := Elem.of (by kernel_rfl) (by kernel_rfl) rfl (by decide)
instance : FieldOff Tryz.prog 84 0 0 := ⟨by kernel_rfl⟩
instance : FieldTy Tryz.prog 84 0 3 0 := ⟨by kernel_rfl⟩
instance : FieldOff Tryz.prog 84 1 1 := ⟨by kernel_rfl⟩
instance : FieldTy Tryz.prog 84 1 3 1 := ⟨by kernel_rfl⟩
instance : FieldOff Tryz.prog 84 2 2 := ⟨by kernel_rfl⟩
instance : FieldTy Tryz.prog 84 2 82 2 := ⟨by kernel_rfl⟩
instance : StructTy Tryz.prog 84 [(0, 1), (1, 1), (2, 1)] := ⟨by kernel_rfl⟩
instance : ZeroOf Tryz.prog 85 [.nilFunc] := ⟨.nilFunc, by kernel_rfl, rfl⟩
instance : PlainTy Tryz.prog 85 := ⟨by kernel_rfl⟩
instance : SizeIs Tryz.prog 85 1 := ⟨by kernel_rfl⟩
instance : Elem Tryz.prog 85 1 8 := Elem.of (by kernel_rfl) (by kernel_rfl) rfl (by decide)
instance : FuncTy Tryz.prog 85 := ⟨_, _, _, Tryz.underlying85⟩
instance : ZeroOf Tryz.prog 86 [.nilFunc] := ⟨.nilFunc, by kernel_rfl, rfl⟩
instance : PlainTy Tryz.prog 86 := ⟨by kernel_rfl⟩
instance : SizeIs Tryz.prog 86 1 := ⟨by kernel_rfl⟩
instance : Elem Tryz.prog 86 1 8 := Elem.of (by kernel_rfl) (by kernel_rfl) rfl (by decide)
instance : FuncTy Tryz.prog 86 := ⟨_, _, _, Tryz.underlying86⟩
instance : ZeroOf Tryz.prog 87 [.nilFunc] := ⟨.nilFunc, by kernel_rfl, rfl⟩
instance : PlainTy Tryz.prog 87 := ⟨by kernel_rfl⟩
instance : SizeIs Tryz.prog 87 1 := ⟨by kernel_rfl⟩
instance : Elem Tryz.prog 87 1 8 := Elem.of (by kernel_rfl) (by kernel_rfl) rfl (by decide)
instance : FuncTy Tryz.prog 87 := ⟨_, _, _, Tryz.underlying87⟩
instance : ZeroOf Tryz.prog 89 [.nilFunc] := ⟨.nilFunc, by kernel_rfl, rfl⟩
instance : PlainTy Tryz.prog 89 := ⟨by kernel_rfl⟩
instance : SizeIs Tryz.prog 89 1 := ⟨by kernel_rfl⟩
instance : Elem Tryz.prog 89 1 8 := Elem.of (by kernel_rfl) (by kernel_rfl) rfl (by decide)
instance : FuncTy Tryz.prog 89 := ⟨_, _, _, Tryz.underlying89⟩
instance : ZeroOf Tryz.prog 90 [.nilFunc] := ⟨.nilFunc, by kernel_rfl, rfl⟩
instance : PlainTy Tryz.prog 90 := ⟨by kernel_rfl⟩
instance : SizeIs Tryz.prog 90 1 := ⟨by kernel_rfl⟩
instance : Elem Tryz.prog 90 1 8 := Elem.of (by kernel_rfl) (by kernel_rfl) rfl (by decide)
instance : FuncTy Tryz.prog 90 := ⟨_, _, _, Tryz.underlying90⟩
instance : ZeroOf Tryz.prog 91 [.pointer none] := ⟨.pointer none, by kernel_rfl, rfl⟩
instance : PlainTy Tryz.prog 91 := ⟨by kernel_rfl⟩
instance : SizeIs Tryz.prog 91 1 := ⟨by kernel_rfl⟩
instance : Elem Tryz.prog 91 1 8 := Elem.of (by kernel_rfl) (by kernel_rfl) rfl (by decide)
instance : ZeroOf Tryz.prog 92 [.pointer none, .slice none 0 0] := ⟨.agg #[.pointer none, .slice none 0 0], by kernel_rfl, rfl⟩
instance : AggTy Tryz.prog 92 2 := ⟨by kernel_rfl⟩
instance : SizeIs Tryz.prog 92 2 := ⟨by kernel_rfl⟩
instance : Elem Tryz.prog 92 2 32 := Elem.of (by kernel_rfl) (by kernel_rfl) rfl (by decide)
instance : FieldOff Tryz.prog 92 0 0 := ⟨by kernel_rfl⟩
instance : FieldTy Tryz.prog 92 0 91 0 := ⟨by kernel_rfl⟩
instance : FieldOff Tryz.prog 92 1 1 := ⟨by kernel_rfl⟩
instance : FieldTy Tryz.prog 92 1 22 1 := ⟨by kernel_rfl⟩
instance : StructTy Tryz.prog 92 [(0, 1), (1, 1)] := ⟨by kernel_rfl⟩
instance : ZeroOf Tryz.prog 93 [.pointer none, .slice none 0 0] := ⟨.agg #[.pointer none, .slice none 0 0], by kernel_rfl, rfl⟩
instance : AggTy Tryz.prog 93 2 := ⟨by kernel_rfl⟩
instance : SizeIs Tryz.prog 93 2 := ⟨by kernel_rfl⟩
instance : Elem Tryz.prog 93 2 32 := Elem.of (by kernel_rfl) (by kernel_rfl) rfl (by decide)
instance : FieldOff Tryz.prog 93 0 0 := ⟨by kernel_rfl⟩
instance : FieldTy Tryz.prog 93 0 91 0 := ⟨by kernel_rfl⟩
instance : FieldOff Tryz.prog 93 1 1 := ⟨by kernel_rfl⟩
instance : FieldTy Tryz.prog 93 1 22 1 := ⟨by kernel_rfl⟩
instance : StructTy Tryz.prog 93 [(0, 1), (1, 1)] := ⟨by kernel_rfl⟩
instance : ZeroOf Tryz.prog 94 [.nilIface] := ⟨.nilIface, by kernel_rfl, rfl⟩
instance : PlainTy Tryz.prog 94 := ⟨by kernel_rfl⟩
instance : SizeIs Tryz.prog 94 1 := ⟨by kernel_rfl⟩
instance : Elem Tryz.prog 94 1 16 := Elem.of (by kernel_rfl) (by kernel_rfl) rfl (by decide)
instance : ZeroOf Tryz.prog 95 [.nilIface] := ⟨.nilIface, by kernel_rfl, rfl⟩
instance : PlainTy Tryz.prog 95 := ⟨by kernel_rfl⟩
instance : SizeIs Tryz.prog 95 1 := ⟨by kernel_rfl⟩
instance : Elem Tryz.prog 95 1 16 := Elem.of (by kernel_rfl) (by kernel_rfl) rfl (by decide)
instance : ZeroOf Tryz.prog 97 [.nilFunc] := ⟨.nilFunc, by kernel_rfl, rfl⟩
instance : PlainTy Tryz.prog 97 := ⟨by kernel_rfl⟩
instance : SizeIs Tryz.prog 97 1 := ⟨by kernel_rfl⟩
instance : Elem Tryz.prog 97 1 8 := Elem.of (by kernel_rfl) (by kernel_rfl) rfl (by decide)
instance : FuncTy Tryz.prog 97 := ⟨_, _, _, Tryz.underlying97⟩
instance : ZeroOf Tryz.prog 98 [.nilFunc] := ⟨.nilFunc, by kernel_rfl, rfl⟩
instance : PlainTy Tryz.prog 98 := ⟨by kernel_rfl⟩
instance : SizeIs Tryz.prog 98 1 := ⟨by kernel_rfl⟩
instance : Elem Tryz.prog 98 1 8 := Elem.of (by kernel_rfl) (by kernel_rfl) rfl (by decide)
instance : FuncTy Tryz.prog 98 := ⟨_, _, _, Tryz.underlying98⟩
instance : ZeroOf Tryz.prog 99 [.int .u64 0] := ⟨.int .u64 0, by kernel_rfl, rfl⟩
instance : PlainTy Tryz.prog 99 := ⟨by kernel_rfl⟩
instance : SizeIs Tryz.prog 99 1 := ⟨by kernel_rfl⟩
instance : Elem Tryz.prog 99 1 8 := Elem.of (by kernel_rfl) (by kernel_rfl) rfl (by decide)
instance : IntTy Tryz.prog 99 .u64 := ⟨by kernel_rfl⟩
instance : ZeroOf Tryz.prog 100 [.nilFunc] := ⟨.nilFunc, by kernel_rfl, rfl⟩
instance : PlainTy Tryz.prog 100 := ⟨by kernel_rfl⟩
instance : SizeIs Tryz.prog 100 1 := ⟨by kernel_rfl⟩
instance : Elem Tryz.prog 100 1 8 := Elem.of (by kernel_rfl) (by kernel_rfl) rfl (by decide)
instance : FuncTy Tryz.prog 100 := ⟨_, _, _, Tryz.underlying100⟩
instance : ZeroOf Tryz.prog 101 [.nilFunc] := ⟨.nilFunc, by kernel_rfl, rfl⟩
instance : PlainTy Tryz.prog 101 := ⟨by kernel_rfl⟩
instance : SizeIs Tryz.prog 101 1 := ⟨by kernel_rfl⟩
instance : Elem Tryz.prog 101 1 8 := Elem.of (by kernel_rfl) (by kernel_rfl) rfl (by decide)
instance : FuncTy Tryz.prog 101 := ⟨_, _, _, Tryz.underlying101⟩
instance : ZeroOf Tryz.prog 103 [.nilFunc] := ⟨.nilFunc, by kernel_rfl, rfl⟩
instance : PlainTy Tryz.prog 103 := ⟨by kernel_rfl⟩
instance : SizeIs Tryz.prog 103 1 := ⟨by kernel_rfl⟩
instance : Elem Tryz.prog 103 1 8 := Elem.of (by kernel_rfl) (by kernel_rfl) rfl (by decide)
instance : FuncTy Tryz.prog 103 := ⟨_, _, _, Tryz.underlying103⟩
instance : ZeroOf Tryz.prog 104 [.nilFunc] := ⟨.nilFunc, by kernel_rfl, rfl⟩
instance : PlainTy Tryz.prog 104 := ⟨by kernel_rfl⟩
instance : SizeIs Tryz.prog 104 1 := ⟨by kernel_rfl⟩
instance : Elem Tryz.prog 104 1 8 := Elem.of (by kernel_rfl) (by kernel_rfl) rfl (by decide)
instance : FuncTy Tryz.prog 104 := ⟨_, _, _, Tryz.underlying104⟩
instance : ZeroOf Tryz.prog 105 [.nilFunc] := ⟨.nilFunc, by kernel_rfl, rfl⟩
instance : PlainTy Tryz.prog 105 := ⟨by kernel_rfl⟩
instance : SizeIs Tryz.prog 105 1 := ⟨by kernel_rfl⟩
instance : Elem Tryz.prog 105 1 8 := Elem.of (by kernel_rfl) (by kernel_rfl) rfl (by decide)
instance : FuncTy Tryz.prog 105 := ⟨_, _, _, Tryz.underlying105⟩
instance : ZeroOf Tryz.prog 106 [.pointer none] := ⟨.pointer none, by kernel_rfl, rfl⟩
instance : PlainTy Tryz.prog 106 := ⟨by kernel_rfl⟩
instance : SizeIs Tryz.prog 106 1 := ⟨by kernel_rfl⟩
instance : Elem Tryz.prog 106 1 8 := Elem.of (by kernel_rfl) (by kernel_rfl) rfl (by decide)
instance : ZeroOf Tryz.prog 107 [.nilFunc] := ⟨.nilFunc, by kernel_rfl, rfl⟩
instance : PlainTy Tryz.prog 107 := ⟨by kernel_rfl⟩
instance : SizeIs Tryz.prog 107 1 := ⟨by kernel_rfl⟩
instance : Elem Tryz.prog 107 1 8 := Elem.of (by kernel_rfl) (by kernel_rfl) rfl (by decide)
instance : FuncTy Tryz.prog 107 := ⟨_, _, _, Tryz.underlying107⟩
instance : ZeroOf Tryz.prog 108 [.nilFunc] := ⟨.nilFunc, by kernel_rfl, rfl⟩
instance : PlainTy Tryz.prog 108 := ⟨by kernel_rfl⟩
instance : SizeIs Tryz.prog 108 1 := ⟨by kernel_rfl⟩
instance : Elem Tryz.prog 108 1 8 := Elem.of (by kernel_rfl) (by kernel_rfl) rfl (by decide)
instance : FuncTy Tryz.prog 108 := ⟨_, _, _, Tryz.underlying108⟩
instance : ZeroOf Tryz.prog 109 [.nilFunc] := ⟨.nilFunc, by kernel_rfl, rfl⟩
instance : PlainTy Tryz.prog 109 := ⟨by kernel_rfl⟩
instance : SizeIs Tryz.prog 109 1 := ⟨by kernel_rfl⟩
instance : Elem Tryz.prog 109 1 8 := Elem.of (by kernel_rfl) (by kernel_rfl) rfl (by decide)
instance : FuncTy Tryz.prog 109 := ⟨_, _, _, Tryz.underlying109⟩
instance : ZeroOf Tryz.prog 110 [.nilFunc] := ⟨.nilFunc, by kernel_rfl, rfl⟩
instance : PlainTy Tryz.prog 110 := ⟨by kernel_rfl⟩
instance : SizeIs Tryz.prog 110 1 := ⟨by kernel_rfl⟩
instance : Elem Tryz.prog 110 1 8 := Elem.of (by kernel_rfl) (by kernel_rfl) rfl (by decide)
instance : FuncTy Tryz.prog 110 := ⟨_, _, _, Tryz.underlying110⟩
instance : ZeroOf Tryz.prog 111 [.nilFunc] := ⟨.nilFunc, by kernel_rfl, rfl⟩
instance : PlainTy Tryz.prog 111 := ⟨by kernel_rfl⟩
instance : SizeIs Tryz.prog 111 1 := ⟨by kernel_rfl⟩
instance : Elem Tryz.prog 111 1 8 := Elem.of (by kernel_rfl) (by kernel_rfl) rfl (by decide)
instance : FuncTy Tryz.prog 111 := ⟨_, _, _, Tryz.underlying111⟩
instance : ZeroOf Tryz.prog 112 [.pointer none] := ⟨.pointer none, by kernel_rfl, rfl⟩
instance : PlainTy Tryz.prog 112 := ⟨by kernel_rfl⟩
instance : SizeIs Tryz.prog 112 1 := ⟨by kernel_rfl⟩
instance : Elem Tryz.prog 112 1 8 := Elem.of (by kernel_rfl) (by kernel_rfl) rfl (by decide)
instance : ZeroOf Tryz.prog 113 [.nilFunc] := ⟨.nilFunc, by kernel_rfl, rfl⟩
instance : PlainTy Tryz.prog 113 := ⟨by kernel_rfl⟩
instance : SizeIs Tryz.prog 113 1 := ⟨by kernel_rfl⟩
instance : Elem Tryz.prog 113 1 8 := Elem.of (by kernel_rfl) (by kernel_rfl) rfl (by decide)
instance : FuncTy Tryz.prog 113 := ⟨_, _, _, Tryz.underlying113⟩
instance : ZeroOf Tryz.prog 114 [.nilFunc] := ⟨.nilFunc, by kernel_rfl, rfl⟩
instance : PlainTy Tryz.prog 114 := ⟨by kernel_rfl⟩
instance : SizeIs Tryz.prog 114 1 := ⟨by kernel_rfl⟩
instance : Elem Tryz.prog 114 1 8 := Elem.of (by kernel_rfl) (by kernel_rfl) rfl (by decide)
instance : FuncTy Tryz.prog 114 := ⟨_, _, _, Tryz.underlying114⟩
instance : ZeroOf Tryz.prog 115 [.nilFunc] := ⟨.nilFunc, by kernel_rfl, rfl⟩
instance : PlainTy Tryz.prog 115 := ⟨by kernel_rfl⟩
instance : SizeIs Tryz.prog 115 1 := ⟨by kernel_rfl⟩
instance : Elem Tryz.prog 115 1 8 := Elem.of (by kernel_rfl) (by kernel_rfl) rfl (by decide)
instance : FuncTy Tryz.prog 115 := ⟨_, _, _, Tryz.underlying115⟩
instance : AggTy Tryz.prog 116 256 := ⟨by kernel_rfl⟩
instance : SizeIs Tryz.prog 116 256 := ⟨by kernel_rfl⟩
instance : ArrTy Tryz.prog 116 256 4 := ⟨by kernel_rfl⟩
instance : AggTy Tryz.prog 117 256 := ⟨by kernel_rfl⟩
instance : SizeIs Tryz.prog 117 256 := ⟨by kernel_rfl⟩
instance : ArrTy Tryz.prog 117 256 4 := ⟨by kernel_rfl⟩
instance : ZeroOf Tryz.prog 119 [.nilFunc] := ⟨.nilFunc, by kernel_rfl, rfl⟩
instance : PlainTy Tryz.prog 119 := ⟨by kernel_rfl⟩
instance : SizeIs Tryz.prog 119 1 := ⟨by kernel_rfl⟩
instance : Elem Tryz.prog 119 1 8 := Elem.of (by kernel_rfl) (by kernel_rfl) rfl (by decide)
instance : FuncTy Tryz.prog 119 := ⟨_, _, _, Tryz.underlying119⟩
instance : ZeroOf Tryz.prog 120 [.nilFunc] := ⟨.nilFunc, by kernel_rfl, rfl⟩
instance : PlainTy Tryz.prog 120 := ⟨by kernel_rfl⟩
instance : SizeIs Tryz.prog 120 1 := ⟨by kernel_rfl⟩
instance : Elem Tryz.prog 120 1 8 := Elem.of (by kernel_rfl) (by kernel_rfl) rfl (by decide)
instance : FuncTy Tryz.prog 120 := ⟨_, _, _, Tryz.underlying120⟩
instance : ZeroOf Tryz.prog 121 [.pointer none] := ⟨.pointer none, by kernel_rfl, rfl⟩
instance : PlainTy Tryz.prog 121 := ⟨by kernel_rfl⟩
instance : SizeIs Tryz.prog 121 1 := ⟨by kernel_rfl⟩
instance : Elem Tryz.prog 121 1 8 := Elem.of (by kernel_rfl) (by kernel_rfl) rfl (by decide)
instance : ZeroOf Tryz.prog 122 [.nilFunc] := ⟨.nilFunc, by kernel_rfl, rfl⟩
instance : PlainTy Tryz.prog 122 := ⟨by kernel_rfl⟩
instance : SizeIs Tryz.prog 122 1 := ⟨by kernel_rfl⟩
instance : Elem Tryz.prog 122 1 8 := Elem.of (by kernel_rfl) (by kernel_rfl) rfl (by decide)
instance : FuncTy Tryz.prog 122 := ⟨_, _, _, Tryz.underlying122⟩
instance : ZeroOf Tryz.prog 123 [.nilFunc] := ⟨.nilFunc, by kernel_rfl, rfl⟩
instance : PlainTy Tryz.prog 123 := ⟨by kernel_rfl⟩
instance : SizeIs Tryz.prog 123 1 := ⟨by kernel_rfl⟩
instance : Elem Tryz.prog 123 1 8 := Elem.of (by kernel_rfl) (by kernel_rfl) rfl (by decide)
instance : FuncTy Tryz.prog 123 := ⟨_, _, _, Tryz.underlying123⟩
instance : ZeroOf Tryz.prog 124 [.pointer none] := ⟨.pointer none, by kernel_rfl, rfl⟩
instance : PlainTy Tryz.prog 124 := ⟨by kernel_rfl⟩
instance : SizeIs Tryz.prog 124 1 := ⟨by kernel_rfl⟩
instance : Elem Tryz.prog 124 1 8 := Elem.of (by kernel_rfl) (by kernel_rfl) rfl (by decide)
instance : ZeroOf Tryz.prog 125 [.nilFunc] := ⟨.nilFunc, by kernel_rfl, rfl⟩
instance : PlainTy Tryz.prog 125 := ⟨by kernel_rfl⟩
instance : SizeIs Tryz.prog 125 1 := ⟨by kernel_rfl⟩
instance : Elem Tryz.prog 125 1 8 := Elem.of (by kernel_rfl) (by kernel_rfl) rfl (by decide)
instance : FuncTy Tryz.prog 125 := ⟨_, _, _, Tryz.underlying125⟩
instance : ZeroOf Tryz.prog 126 [.nilFunc] := ⟨.nilFunc, by kernel_rfl, rfl⟩
instance : PlainTy Tryz.prog 126 := ⟨by kernel_rfl⟩
instance : SizeIs Tryz.prog 126 1 := ⟨by kernel_rfl⟩
instance : Elem Tryz.prog 126 1 8 := Elem.of (by kernel_rfl) (by kernel_rfl) rfl (by decide)
instance : FuncTy Tryz.prog 126 := ⟨_, _, _, Tryz.underlying126⟩
instance : ZeroOf Tryz.prog 128 [.nilFunc] := ⟨.nilFunc, by kernel_rfl, rfl⟩
instance : PlainTy Tryz.prog 128 := ⟨by kernel_rfl⟩
instance : SizeIs Tryz.prog 128 1 := ⟨by kernel_rfl⟩
instance : Elem Tryz.prog 128 1 8 := Elem.of (by kernel_rfl) (by kernel_rfl) rfl (by decide)
instance : FuncTy Tryz.prog 128 := ⟨_, _, _, Tryz.underlying128⟩
instance : ZeroOf Tryz.prog 129 [.nilFunc] := ⟨.nilFunc, by kernel_rfl, rfl⟩
instance : PlainTy Tryz.prog 129 := ⟨by kernel_rfl⟩
instance : SizeIs Tryz.prog 129 1 := ⟨by kernel_rfl⟩
instance : Elem Tryz.prog 129 1 8 := Elem.of (by kernel_rfl) (by kernel_rfl) rfl (by decide)
instance : FuncTy Tryz.prog 129 := ⟨_, _, _, Tryz.underlying129⟩
instance : ZeroOf Tryz.prog 130 [.nilFunc] := ⟨.nilFunc, by kernel_rfl, rfl⟩
instance : PlainTy Tryz.prog 130 := ⟨by kernel_rfl⟩
instance : SizeIs Tryz.prog 130 1 := ⟨by kernel_rfl⟩
instance : Elem Tryz.prog 130 1 8 := Elem.of (by kernel_rfl) (by kernel_rfl) rfl (by decide)
instance : FuncTy Tryz.prog 130 := ⟨_, _, _, Tryz.underlying130⟩
instance : ZeroOf Tryz.prog 131 [.nilFunc] := ⟨.nilFunc, by kernel_rfl, rfl⟩
instance : PlainTy Tryz.prog 131 := ⟨by kernel_rfl⟩
instance : SizeIs Tryz.prog 131 1 := ⟨by kernel_rfl⟩
instance : Elem Tryz.prog 131 1 8 := Elem.of (by kernel_rfl) (by kernel_rfl) rfl (by decide)
instance : FuncTy Tryz.prog 131 := ⟨_, _, _, Tryz.underlying131⟩
instance : ZeroOf Tryz.prog 132 [.nilFunc] := ⟨.nilFunc, by kernel_rfl, rfl⟩
instance : PlainTy Tryz.prog 132 := ⟨by kernel_rfl⟩
instance : SizeIs Tryz.prog 132 1 := ⟨by kernel_rfl⟩
instance : Elem Tryz.prog 132 1 8 := Elem.of (by kernel_rfl) (by kernel_rfl) rfl (by decide)
instance : FuncTy Tryz.prog 132 := ⟨_, _, _, Tryz.underlying132⟩
instance : ZeroOf Tryz.prog 133 [.nilFunc] := ⟨.nilFunc, by kernel_rfl, rfl⟩
instance : PlainTy Tryz.prog 133 := ⟨by kernel_rfl⟩
instance : SizeIs Tryz.prog 133 1 := ⟨by kernel_rfl⟩
instance : Elem Tryz.prog 133 1 8 := Elem.of (by kernel_rfl) (by kernel_rfl) rfl (by decide)
instance : FuncTy Tryz.prog 133 := ⟨_, _, _, Tryz.underlying133⟩
instance : ZeroOf Tryz.prog 134 [.nilFunc] := ⟨.nilFunc, by kernel_rfl, rfl⟩
instance : PlainTy Tryz.prog 134 := ⟨by kernel_rfl⟩
instance : SizeIs Tryz.prog 134 1 := ⟨by kernel_rfl⟩
instance : Elem Tryz.prog 134 1 8 := Elem.of (by kernel_rfl) (by kernel_rfl) rfl (by decide)
instance : FuncTy Tryz.prog 134 := ⟨_, _, _, Tryz.underlying134⟩
instance : ZeroOf Tryz.prog 135 [.nilFunc] := ⟨.nilFunc, by kernel_rfl, rfl⟩
instance : PlainTy Tryz.prog 135 := ⟨by kernel_rfl⟩
instance : SizeIs Tryz.prog 135 1 := ⟨by kernel_rfl⟩
instance : Elem Tryz.prog 135 1 8 := Elem.of (by kernel_rfl) (by kernel_rfl) rfl (by decide)
instance : FuncTy Tryz.prog 135 := ⟨_, _, _, Tryz.underlying135⟩
instance : ZeroOf Tryz.prog 136 [.nilFunc] := ⟨.nilFunc, by kernel_rfl, rfl⟩
instance : PlainTy Tryz.prog 136 := ⟨by kernel_rfl⟩
instance : SizeIs Tryz.prog 136 1 := ⟨by kernel_rfl⟩
instance : Elem Tryz.prog 136 1 8 := Elem.of (by kernel_rfl) (by kernel_rfl) rfl (by decide)
instance : FuncTy Tryz.prog 136 := ⟨_, _, _, Tryz.underlying136⟩
instance : ZeroOf Tryz.prog 137 [.int .u8 0, .int .u8 0, .int .u8 0, .int .u8 0, .int .u8 0, .int .u8 0, .int .u8 0, .int .u8 0, .int .u8 0, .int .u8 0, .int .u8 0, .int .u8 0, .int .u8 0, .int .u8 0, .int .u8 0, .int .u8 0, .int .u8 0, .int .u8 0, .int .u8 0, .int .u8 0, .int .u8 0, .int .u8 0, .int .u8 0, .int .u8 0] := ⟨.agg #[.int .u8 0, .int .u8 0, .int .u8 0, .int .u8 0, .int .u8 0, .int .u8 0, .int .u8 0, .int .u8 0, .int .u8 0, .int .u8 0, .int .u8 0, .int .u8 0, .int .u8 0, .int .u8 0, .int .u8 0, .int .u8 0, .int .u8 0, .int .u8 0, .int .u8 0, .int .u8 0, .int .u8 0, .int .u8 0, .int .u8 0, .int .u8 0], by kernel_rfl, rfl⟩
instance : AggTy Tryz.prog 137 24 := ⟨by kernel_rfl⟩
instance : SizeIs Tryz.prog 137 24 := ⟨by kernel_rfl⟩
instance : Elem Tryz.prog 137 24 24 := Elem.of (by kernel_rfl) (by kernel_rfl) rfl (by decide)
instance : ArrTy Tryz.prog 137 24 5 := ⟨by kernel_rfl⟩
instance : ZeroOf Tryz.prog 138 [.nilFunc] := ⟨.nilFunc, by kernel_rfl, rfl⟩
instance : PlainTy Tryz.prog 138 := ⟨by kernel_rfl⟩
instance : SizeIs Tryz.prog 138 1 := ⟨by kernel_rfl⟩
instance : Elem Tryz.prog 138 1 8 := Elem.of (by kernel_rfl) (by kernel_rfl) rfl (by decide)
instance : FuncTy Tryz.prog 138 := ⟨_, _, _, Tryz.underlying138⟩
instance : ZeroOf Tryz.prog 139 [.nilFunc] := ⟨.nilFunc, by kernel_rfl, rfl⟩
instance : PlainTy Tryz.prog 139 := ⟨by kernel_rfl⟩
instance : SizeIs Tryz.prog 139 1 := ⟨by kernel_rfl⟩
instance : Elem Tryz.prog 139 1 8 := Elem.of (by kernel_rfl) (by kernel_rfl) rfl (by decide)
instance : FuncTy Tryz.prog 139 := ⟨_, _, _, Tryz.underlying139⟩
instance : ZeroOf Tryz.prog 141 [.nilFunc] := ⟨.nilFunc, by kernel_rfl, rfl⟩
instance : PlainTy Tryz.prog 141 := ⟨by kernel_rfl⟩
instance : SizeIs Tryz.prog 141 1 := ⟨by kernel_rfl⟩
instance : Elem Tryz.prog 141 1 8 := Elem.of (by kernel_rfl) (by kernel_rfl) rfl (by decide)
instance : FuncTy Tryz.prog 141 := ⟨_, _, _, Tryz.underlying141⟩
instance : ZeroOf Tryz.prog 142 [.nilFunc] := ⟨.nilFunc, by kernel_rfl, rfl⟩
instance : PlainTy Tryz.prog 142 := ⟨by kernel_rfl⟩
instance : SizeIs Tryz.prog 142 1 := ⟨by kernel_rfl⟩
instance : Elem Tryz.prog 142 1 8 := Elem.of (by kernel_rfl) (by kernel_rfl) rfl (by decide)
instance : FuncTy Tryz.prog 142 := ⟨_, _, _, Tryz.underlying142⟩
instance : ZeroOf Tryz.prog 143 [.int .i64 0] := ⟨.int .i64 0, by kernel_rfl, rfl⟩
instance : PlainTy Tryz.prog 143 := ⟨by kernel_rfl⟩
instance : SizeIs Tryz.prog 143 1 := ⟨by kernel_rfl⟩
instance : Elem Tryz.prog 143 1 8 := Elem.of (by kernel_rfl) (by kernel_rfl) rfl (by decide)
instance : IntTy Tryz.prog 143 .i64 := ⟨by kernel_rfl⟩
instance : ZeroOf Tryz.prog 145 [.nilFunc] := ⟨.nilFunc, by kernel_rfl, rfl⟩
instance : PlainTy Tryz.prog 145 := ⟨by kernel_rfl⟩
instance : SizeIs Tryz.prog 145 1 := ⟨by kernel_rfl⟩
instance : Elem Tryz.prog 145 1 8 := Elem.of (by kernel_rfl) (by kernel_rfl) rfl (by decide)
instance : FuncTy Tryz.prog 145 := ⟨_, _, _, Tryz.underlying145⟩
instance : ZeroOf Tryz.prog 146 [.nilFunc] := ⟨.nilFunc, by kernel_rfl, rfl⟩
instance : PlainTy Tryz.prog 146 := ⟨by kernel_rfl⟩
instance : SizeIs Tryz.prog 146 1 := ⟨by kernel_rfl⟩
instance : Elem Tryz.prog 146 1 8 := Elem.of (by kernel_rfl) (by kernel_rfl) rfl (by decide)
instance : FuncTy Tryz.prog 146 := ⟨_, _, _, Tryz.underlying146⟩
instance : ZeroOf Tryz.prog 147 [.nilFunc] := ⟨.nilFunc, by kernel_rfl, rfl⟩
instance : PlainTy Tryz.prog 147 := ⟨by kernel_rfl⟩
instance : SizeIs Tryz.prog 147 1 := ⟨by kernel_rfl⟩
instance : Elem Tryz.prog 147 1 8 := Elem.of (by kernel_rfl) (by kernel_rfl) rfl (by decide)
instance : FuncTy Tryz.prog 147 := ⟨_, _, _, Tryz.underlying147⟩
instance : ZeroOf Tryz.prog 148 [.nilFunc] := ⟨.nilFunc, by kernel_rfl, rfl⟩
instance : PlainTy Tryz.prog 148 := ⟨by kernel_rfl⟩
instance : SizeIs Tryz.prog 148 1 := ⟨by kernel_rfl⟩
instance : Elem Tryz.prog 148 1 8 := Elem.of (by kernel_rfl) (by kernel_rfl) rfl (by decide)
instance : FuncTy Tryz.prog 148 := ⟨_, _, _, Tryz.underlying148⟩
instance : ZeroOf Tryz.prog 150 [.nilFunc] := ⟨.nilFunc, by kernel_rfl, rfl⟩
instance : PlainTy Tryz.prog 150 := ⟨by kernel_rfl⟩
instance : SizeIs Tryz.prog 150 1 := ⟨by kernel_rfl⟩
instance : Elem Tryz.prog 150 1 8 := Elem.of (by kernel_rfl) (by kernel_rfl) rfl (by decide)
instance : FuncTy Tryz.prog 150 := ⟨_, _, _, Tryz.underlying150⟩
instance : ZeroOf Tryz.prog 151 [.nilFunc] := ⟨.nilFunc, by kernel_rfl, rfl⟩
instance : PlainTy Tryz.prog 151 := ⟨by kernel_rfl⟩
instance : SizeIs Tryz.prog 151 1 := ⟨by kernel_rfl⟩
instance : Elem Tryz.prog 151 1 8 := Elem.of (by kernel_rfl) (by kernel_rfl) rfl (by decide)
instance : FuncTy Tryz.prog 151 := ⟨_, _, _, Tryz.underlying151⟩
instance : ZeroOf Tryz.prog 152 [.int .u32 0] := ⟨.int .u32 0, by kernel_rfl, rfl⟩
instance : PlainTy Tryz.prog 152 := ⟨by kernel_rfl⟩
instance : SizeIs Tryz.prog 152 1 := ⟨by kernel_rfl⟩
instance : Elem Tryz.prog 152 1 4 := Elem.of (by kernel_rfl) (by kernel_rfl) rfl (by decide)
instance : IntTy Tryz.prog 152 .u32 := ⟨by kernel_rfl⟩
instance : AggTy Tryz.prog 153 256 := ⟨by kernel_rfl⟩
instance : SizeIs Tryz.prog 153 256 := ⟨by kernel_rfl⟩
instance : ArrTy Tryz.prog 153 256 5 := ⟨by kernel_rfl⟩
instance : ZeroOf Tryz.prog 154 [.int .u8 0, .int .u8 0] := ⟨.agg #[.int .u8 0, .int .u8 0], by kernel_rfl, rfl⟩
instance : AggTy Tryz.prog 154 2 := ⟨by kernel_rfl⟩
instance : SizeIs Tryz.prog 154 2 := ⟨by kernel_rfl⟩
instance : Elem Tryz.prog 154 2 2 := Elem.of (by kernel_rfl) (by kernel_rfl) rfl (by decide)
instance : FieldOff Tryz.prog 154 0 0 := ⟨by kernel_rfl⟩
instance : FieldTy Tryz.prog 154 0 5 0 := ⟨by kernel_rfl⟩
instance : FieldOff Tryz.prog 154 1 1 := ⟨by kernel_rfl⟩
instance : FieldTy Tryz.prog 154 1 5 1 := ⟨by kernel_rfl⟩
instance : StructTy Tryz.prog 154 [(0, 1), (1, 1)] := ⟨by kernel_rfl⟩
instance : ZeroOf Tryz.prog 155 [.int .u8 0, .int .u8 0] := ⟨.agg #[.int .u8 0, .int .u8 0], by kernel_rfl, rfl⟩
instance : AggTy Tryz.prog 155 2 := ⟨by kernel_rfl⟩
instance : SizeIs Tryz.prog 155 2 := ⟨by kernel_rfl⟩
instance : Elem Tryz.prog 155 2 2 := Elem.of (by kernel_rfl) (by kernel_rfl) rfl (by decide)
instance : FieldOff Tryz.prog 155 0 0 := ⟨by kernel_rfl⟩
instance : FieldTy Tryz.prog 155 0 5 0 := ⟨by kernel_rfl⟩
instance : FieldOff Tryz.prog 155 1 1 := ⟨by kernel_rfl⟩
instance : FieldTy Tryz.prog 155 1 5 1 := ⟨by kernel_rfl⟩
instance : StructTy Tryz.prog 155 [(0, 1), (1, 1)] := ⟨by kernel_rfl⟩
instance : ZeroOf Tryz.prog 156 [.int .u8 0, .int .u8 0, .int .u8 0, .int .u8 0, .int .u8 0, .int .u8 0, .int .u8 0, .int .u8 0, .int .u8 0, .int .u8 0, .int .u8 0, .int .u8 0, .int .u8 0, .int .u8 0, .int .u8 0, .int .u8 0, .int .u8 0, .int .u8 0, .int .u8 0, .int .u8 0, .int .u8 0, .int .u8 0, .int .u8 0, .int .u8 0, .int .u8 0, .int .u8 0, .int .u8 0, .int .u8 0, .int .u8 0, .int .u8 0, .int .u8 0, .int .u8 0] := ⟨.agg #[.int .u8 0, .int .u8 0, .int .u8 0, .int .u8 0, .int .u8 0, .int .u8 0, .int .u8 0, .int .u8 0, .int .u8 0, .int .u8 0, .int .u8 0, .int .u8 0, .int .u8 0, .int .u8 0, .int .u8 0, .int .u8 0, .int .u8 0, .int .u8 0, .int .u8 0, .int .u8 0, .int .u8 0, .int .u8 0, .int .u8 0, .int .u8 0, .int .u8 0, .int .u8 0, .int .u8 0, .int .u8 0, .int .u8 0, .int .u8 0, .int .u8 0, .int .u8 0], by kernel_rfl, rfl⟩
instance : AggTy Tryz.prog 156 32 := ⟨by kernel_rfl⟩
instance : SizeIs Tryz.prog 156 32 := ⟨by kernel_rfl⟩
instance : Elem Tryz.prog 156 32 32 := Elem.of (by kernel_rfl) (by kernel_rfl) rfl (by decide)
instance : ArrTy Tryz.prog 156 16 155 := ⟨by kernel_rfl⟩
instance : ZeroOf Tryz.prog 158 [.nilFunc] := ⟨.nilFunc, by kernel_rfl, rfl⟩
instance : PlainTy Tryz.prog 158 := ⟨by kernel_rfl⟩
instance : SizeIs Tryz.prog 158 1 := ⟨by kernel_rfl⟩
instance : Elem Tryz.prog 158 1 8 := Elem.of (by kernel_rfl) (by kernel_rfl) rfl (by decide)
instance : FuncTy Tryz.prog 158 := ⟨_, _, _, Tryz.underlying158⟩
instance : ZeroOf Tryz.prog 159 [.nilFunc] := ⟨.nilFunc, by kernel_rfl, rfl⟩
instance : PlainTy Tryz.prog 159 := ⟨by kernel_rfl⟩
instance : SizeIs Tryz.prog 159 1 := ⟨by kernel_rfl⟩
instance : Elem Tryz.prog 159 1 8 := Elem.of (by kernel_rfl) (by kernel_rfl) rfl (by decide)
instance : FuncTy Tryz.prog 159 := ⟨_, _, _, Tryz.underlying159⟩
instance : ZeroOf Tryz.prog 160 [.nilFunc] := ⟨.nilFunc, by kernel_rfl, rfl⟩
instance : PlainTy Tryz.prog 160 := ⟨by kernel_rfl⟩
instance : SizeIs Tryz.prog 160 1 := ⟨by kernel_rfl⟩
instance : Elem Tryz.prog 160 1 8 := Elem.of (by kernel_rfl) (by kernel_rfl) rfl (by decide)
instance : FuncTy Tryz.prog 160 := ⟨_, _, _, Tryz.underlying160⟩
instance : ZeroOf Tryz.prog 161 [.int .u64 0, .int .u64 0, .int .u64 0, .int .u64 0, .int .u64 0, .int .u64 0, .int .u64 0, .int .u64 0, .int .u64 0, .int .u64 0, .int .u64 0, .int .u64 0, .int .u64 0, .int .u64 0, .int .u64 0, .int .u64 0, .int .u64 0, .int .u64 0, .int .u64 0, .int .u64 0] := ⟨.agg #[.int .u64 0, .int .u64 0, .int .u64 0, .int .u64 0, .int .u64 0, .int .u64 0, .int .u64 0, .int .u64 0, .int .u64 0, .int .u64 0, .int .u64 0, .int .u64 0, .int .u64 0, .int .u64 0, .int .u64 0, .int .u64 0, .int .u64 0, .int .u64 0, .int .u64 0, .int .u64 0], by kernel_rfl, rfl⟩
instance : AggTy Tryz.prog 161 20 := ⟨by kernel_rfl⟩
instance : SizeIs Tryz.prog 161 20 := ⟨by kernel_rfl⟩
instance : Elem Tryz.prog 161 20 160 := Elem.of (by kernel_rfl) (by kernel_rfl) rfl (by decide)
instance : ArrTy Tryz.prog 161 20 40 := ⟨by kernel_rfl⟩
instance : AggTy Tryz.prog 162 65 := ⟨by kernel_rfl⟩
instance : SizeIs Tryz.prog 162 65 := ⟨by kernel_rfl⟩
instance : ArrTy Tryz.prog 162 65 5 := ⟨by kernel_rfl⟩
instance : ZeroOf Tryz.prog 163 [.nilFunc] := ⟨.nilFunc, by kernel_rfl, rfl⟩
instance : PlainTy Tryz.prog 163 := ⟨by kernel_rfl⟩
instance : SizeIs Tryz.prog 163 1 := ⟨by kernel_rfl⟩
instance : Elem Tryz.prog 163 1 8 := Elem.of (by kernel_rfl) (by kernel_rfl) rfl (by decide)
instance : FuncTy Tryz.prog 163 := ⟨_, _, _, Tryz.underlying163⟩
instance : ZeroOf Tryz.prog 164 [.int .u64 0] := ⟨.int .u64 0, by kernel_rfl, rfl⟩
instance : PlainTy Tryz.prog 164 := ⟨by kernel_rfl⟩
instance : SizeIs Tryz.prog 164 1 := ⟨by kernel_rfl⟩
instance : Elem Tryz.prog 164 1 8 := Elem.of (by kernel_rfl) (by kernel_rfl) rfl (by decide)
instance : IntTy Tryz.prog 164 .u64 := ⟨by kernel_rfl⟩
instance : ZeroOf Tryz.prog 165 [.nilFunc] := ⟨.nilFunc, by kernel_rfl, rfl⟩
instance : PlainTy Tryz.prog 165 := ⟨by kernel_rfl⟩
instance : SizeIs Tryz.prog 165 1 := ⟨by kernel_rfl⟩
instance : Elem Tryz.prog 165 1 8 := Elem.of (by kernel_rfl) (by kernel_rfl) rfl (by decide)
instance : FuncTy Tryz.prog 165 := ⟨_, _, _, Tryz.underlying165⟩
instance : ZeroOf Tryz.prog 166 [.nilFunc] := ⟨.nilFunc, by kernel_rfl, rfl⟩
instance : PlainTy Tryz.prog 166 := ⟨by kernel_rfl⟩
instance : SizeIs Tryz.prog 166 1 := ⟨by kernel_rfl⟩
instance : Elem Tryz.prog 166 1 8 := Elem.of (by kernel_rfl) (by kernel_rfl) rfl (by decide)
instance : FuncTy Tryz.prog 166 := ⟨_, _, _, Tryz.underlying166⟩
instance : ZeroOf Tryz.prog 167 [.nilFunc] := ⟨.nilFunc, by kernel_rfl, rfl⟩
instance : PlainTy Tryz.prog 167 := ⟨by kernel_rfl⟩
instance : SizeIs Tryz.prog 167 1 := ⟨by kernel_rfl⟩
instance : Elem Tryz.prog 167 1 8 := Elem.of (by kernel_rfl) (by kernel_rfl) rfl (by decide)
instance : FuncTy Tryz.prog 167 := ⟨_, _, _, Tryz.underlying167⟩
instance : ZeroOf Tryz.prog 168 [.pointer none] := ⟨.pointer none, by kernel_rfl, rfl⟩
instance : PlainTy Tryz.prog 168 := ⟨by kernel_rfl⟩
instance : SizeIs Tryz.prog 168 1 := ⟨by kernel_rfl⟩
instance : Elem Tryz.prog 168 1 8 := Elem.of (by kernel_rfl) (by kernel_rfl) rfl (by decide)
instance : ZeroOf Tryz.prog 169 [.nilFunc] := ⟨.nilFunc, by kernel_rfl, rfl⟩
instance : PlainTy Tryz.prog 169 := ⟨by kernel_rfl⟩
instance : SizeIs Tryz.prog 169 1 := ⟨by kernel_rfl⟩
instance : Elem Tryz.prog 169 1 8 := Elem.of (by kernel_rfl) (by kernel_rfl) rfl (by decide)
instance : FuncTy Tryz.prog 169 := ⟨_, _, _, Tryz.underlying169⟩
instance : ZeroOf Tryz.prog 170 [.pointer none] := ⟨.pointer none, by kernel_rfl, rfl⟩
instance : PlainTy Tryz.prog 170 := ⟨by kernel_rfl⟩
instance : SizeIs Tryz.prog 170 1 := ⟨by kernel_rfl⟩
instance : Elem Tryz.prog 170 1 8 := Elem.of (by kernel_rfl) (by kernel_rfl) rfl (by decide)
instance : ZeroOf Tryz.prog 172 [.nilFunc] := ⟨.nilFunc, by kernel_rfl, rfl⟩
instance : PlainTy Tryz.prog 172 := ⟨by kernel_rfl⟩
instance : SizeIs Tryz.prog 172 1 := ⟨by kernel_rfl⟩
instance : Elem Tryz.prog 172 1 8 := Elem.of (by kernel_rfl) (by kernel_rfl) rfl (by decide)
instance : FuncTy Tryz.prog 172 := ⟨_, _, _, Tryz.underlying172⟩
instance : ZeroOf Tryz.prog 173 [.int .u8 0, .int .u8 0, .int .u8 0, .int .u8 0, .int .u8 0, .int .u8 0, .int .u8 0, .int .u8 0, .int .u8 0, .int .u8 0, .int .u8 0, .int .u8 0, .int .u8 0, .int .u8 0, .int .u8 0, .int .u8 0, .int .u8 0, .int .u8 0, .int .u8 0, .int .u8 0, .int .u8 0, .int .u8 0, .int .u8 0, .int .u8 0, .int .u8 0, .int .u8 0, .int .u8 0, .int .u8 0, .int .u8 0, .int .u8 0, .int .u8 0, .int .u8 0] := ⟨.agg #[.int .u8 0, .int .u8 0, .int .u8 0, .int .u8 0, .int .u8 0, .int .u8 0, .int .u8 0, .int .u8 0, .int .u8 0, .int .u8 0, .int .u8 0, .int .u8 0, .int .u8 0, .int .u8 0, .int .u8 0, .int .u8 0, .int .u8 0, .int .u8 0, .int .u8 0, .int .u8 0, .int .u8 0, .int .u8 0, .int .u8 0, .int .u8 0, .int .u8 0, .int .u8 0, .int .u8 0, .int .u8 0, .int .u8 0, .int .u8 0, .int .u8 0, .int .u8 0], by kernel_rfl, rfl⟩
instance : AggTy Tryz.prog 173 32 := ⟨by kernel_rfl⟩
instance : SizeIs Tryz.prog 173 32 := ⟨by kernel_rfl⟩
instance : Elem Tryz.prog 173 32 32 := Elem.of (by kernel_rfl) (by kernel_rfl) rfl (by decide)
instance : ArrTy Tryz.prog 173 32 5 := ⟨by kernel_rfl⟩
instance : ZeroOf Tryz.prog 174 [.int .u8 0, .int .u8 0, .int .u8 0, .int .u8 0, .int .u8 0, .int .u8 0, .int .u8 0, .int .u8 0, .int .u8 0, .int .u8 0, .int .u8 0, .int .u8 0, .int .u8 0, .int .u8 0, .int .u8 0, .int .u8 0, .int .u8 0, .int .u8 0, .int .u8 0, .int .u8 0, .int .u8 0, .int .u8 0, .int .u8 0, .int .u8 0, .int .u8 0, .int .u8 0, .int .u8 0, .int .u8 0, .int .u8 0, .int .u8 0, .int .u8 0, .int .u8 0, .int .u8 0, .int .u8 0, .int .u8 0, .int .u8 0, .int .u8 0, .int .u8 0, .int .u8 0, .int .u8 0, .int .u8 0, .int .u8 0, .int .u8 0, .int .u8 0, .int .u8 0, .int .u8 0, .int .u8 0, .int .u8 0, .int .u8 0, .int .u8 0, .int .u8 0, .int .u8 0, .int .u8 0, .int .u8 0, .int .u8 0, .int .u8 0, .int .u8 0, .int .u8 0, .int .u8 0, .int .u8 0, .int .u8 0, .int .u8 0, .int .u8 0, .int .u8 0] := ⟨.agg #[.int .u8 0, .int .u8 0, .int .u8 0, .int .u8 0, .int .u8 0, .int .u8 0, .int .u8 0, .int .u8 0, .int .u8 0, .int .u8 0, .int .u8 0, .int .u8 0, .int .u8 0, .int .u8 0, .int .u8 0, .int .u8 0, .int .u8 0, .int .u8 0, .int .u8 0, .int .u8 0, .int .u8 0, .int .u8 0, .int .u8 0, .int .u8 0, .int .u8 0, .int .u8 0, .int .u8 0, .int .u8 0, .int .u8 0, .int .u8 0, .int .u8 0, .int .u8 0, .int .u8 0, .int .u8 0, .int .u8 0, .int .u8 0, .int .u8 0, .int .u8 0, .int .u8 0, .int .u8 0, .int .u8 0, .int .u8 0, .int .u8 0, .int .u8 0, .int .u8 0, .int .u8 0, .int .u8 0, .int .u8 0, .int .u8 0, .int .u8 0, .int .u8 0, .int .u8 0, .int .u8 0, .int .u8 0, .int .u8 0, .int .u8 0, .int .u8 0, .int .u8 0, .int .u8 0, .int .u8 0, .int .u8 0, .int .u8 0, .int .u8 0, .int .u8 0], by kernel_rfl, rfl⟩
instance : AggTy Tryz.prog 174 64 := ⟨by kernel_rfl⟩
instance : SizeIs Tryz.prog 174 64 := ⟨by kernel_rfl⟩
instance : Elem Tryz.prog 174 64 64 := Elem.of (by kernel_rfl) (by kernel_rfl) rfl (by decide)
instance : ArrTy Tryz.prog 174 64 5 := ⟨by kernel_rfl⟩
instance : ZeroOf Tryz.prog 175 [.pointer none, .pointer none, .pointer none, str []] := ⟨.agg #[.pointer none, .pointer none, .pointer none, str []], by kernel_rfl, rfl⟩
instance : AggTy Tryz.prog 175 4 := ⟨by kernel_rfl⟩
instance : SizeIs Tryz.prog 175 4 := ⟨by kernel_rfl⟩
instance : Elem Tryz.prog 175 4 40 := Elem.of (by kernel_rfl) (by kernel_rfl) rfl (by decide)
instance : FieldOff Tryz.prog 175 0 0 := ⟨by kernel_rfl⟩
instance : FieldTy Tryz.prog 175 0 17 0 := ⟨by kernel_rfl⟩
instance : FieldOff Tryz.prog 175 1 1 := ⟨by kernel_rfl⟩
instance : FieldTy Tryz.prog 175 1 17 1 := ⟨by kernel_rfl⟩
instance : FieldOff Tryz.prog 175 2 2 := ⟨by kernel_rfl⟩
instance : FieldTy Tryz.prog 175 2 17 2 := ⟨by kernel_rfl⟩
instance : FieldOff Tryz.prog 175 3 3 := ⟨by kernel_rfl⟩
instance : FieldTy Tryz.prog 175 3 9 3 := ⟨by kernel_rfl⟩
instance : StructTy Tryz.prog 175 [(0, 1), (1, 1), (2, 1), (3, 1)] := ⟨by kernel_rfl⟩
instance : ZeroOf Tryz.prog 176 [.pointer none, .pointer none, .pointer none, str []] := ⟨.agg #[.pointer none, .pointer none, .pointer none, str []], by kernel_rfl, rfl⟩
instance : AggTy Tryz.prog 176 4 := ⟨by kernel_rfl⟩
instance : SizeIs Tryz.prog 176 4 := ⟨by kernel_rfl⟩
instance : Elem Tryz.prog 176 4 40 := Elem.of (by kernel_rfl) (by kernel_rfl) rfl (by decide)
instance : FieldOff Tryz.prog 176 0 0 := ⟨by kernel_rfl⟩
instance : FieldTy Tryz.prog 176 0 17 0 := ⟨by kernel_rfl⟩
instance : FieldOff Tryz.prog 176 1 1 := ⟨by kernel_rfl⟩
instance : FieldTy Tryz.prog 176 1 17 1 := ⟨by kernel_rfl⟩
instance : FieldOff Tryz.prog 176 2 2 := ⟨by kernel_rfl⟩
instance : FieldTy Tryz.prog 176 2 17 2 := ⟨by kernel_rfl⟩
instance : FieldOff Tryz.prog 176 3 3 := ⟨by kernel_rfl⟩
instance : FieldTy Tryz.prog 176 3 9 3 := ⟨by kernel_rfl⟩
instance : StructTy Tryz.prog 176 [(0, 1), (1, 1), (2, 1), (3, 1)] := ⟨by kernel_rfl⟩
instance : ZeroOf Tryz.prog 177 [] := ⟨.agg #[], by kernel_rfl, rfl⟩
instance : AggTy Tryz.prog 177 0 := ⟨by kernel_rfl⟩
instance : SizeIs Tryz.prog 177 0 := ⟨by kernel_rfl⟩
instance : ArrTy Tryz.prog 177 0 16 := ⟨by kernel_rfl⟩
instance : ZeroOf Tryz.prog 178 [] := ⟨.agg #[], by kernel_rfl, rfl⟩
instance : AggTy Tryz.prog 178 0 := ⟨by kernel_rfl⟩
instance : SizeIs Tryz.prog 178 0 := ⟨by kernel_rfl⟩
instance : FieldTy Tryz.prog 178 0 177 0 := ⟨by kernel_rfl⟩
instance : StructTy Tryz.prog 178 [(0, 0)] := ⟨by kernel_rfl⟩
instance : ZeroOf Tryz.prog 179 [] := ⟨.agg #[], by kernel_rfl, rfl⟩
instance : AggTy Tryz.prog 179 0 := ⟨by kernel_rfl⟩
instance : SizeIs Tryz.prog 179 0 := ⟨by kernel_rfl⟩
instance : FieldTy Tryz.prog 179 0 177 0 := ⟨by kernel_rfl⟩
instance : StructTy Tryz.prog 179 [(0, 0)] := ⟨by kernel_rfl⟩
instance : ZeroOf Tryz.prog 180 [.nilFunc] := ⟨.nilFunc, by kernel_rfl, rfl⟩
instance : PlainTy Tryz.prog 180 := ⟨by kernel_rfl⟩
instance : SizeIs Tryz.prog 180 1 := ⟨by kernel_rfl⟩
instance : Elem Tryz.prog 180 1 8 := Elem.of (by kernel_rfl) (by kernel_rfl) rfl (by decide)
instance : FuncTy Tryz.prog 180 := ⟨_, _, _, Tryz.underlying180⟩
instance : ZeroOf Tryz.prog 181 [.int .u8 0] := ⟨.int .u8 0, by kernel_rfl, rfl⟩
instance : PlainTy Tryz.prog 181 := ⟨by kernel_rfl⟩
instance : SizeIs Tryz.prog 181 1 := ⟨by kernel_rfl⟩
instance : Elem Tryz.prog 181 1 1 := Elem.of (by kernel_rfl) (by kernel_rfl) rfl (by decide)
instance : IntTy Tryz.prog 181 .u8 := ⟨by kernel_rfl⟩
instance : ZeroOf Tryz.prog 182 [.int .u8 0] := ⟨.int .u8 0, by kernel_rfl, rfl⟩
instance : PlainTy Tryz.prog 182 := ⟨by kernel_rfl⟩
instance : SizeIs Tryz.prog 182 1 := ⟨by kernel_rfl⟩
instance : Elem Tryz.prog 182 1 1 := Elem.of (by kernel_rfl) (by kernel_rfl) rfl (by decide)
instance : IntTy Tryz.prog 182 .u8 := ⟨by kernel_rfl⟩
instance : ZeroOf Tryz.prog 183 [.nilFunc] := ⟨.nilFunc, by kernel_rfl, rfl⟩
instance : PlainTy Tryz.prog 183 := ⟨by kernel_rfl⟩
instance : SizeIs Tryz.prog 183 1 := ⟨by kernel_rfl⟩
instance : Elem Tryz.prog 183 1 8 := Elem.of (by kernel_rfl) (by kernel_rfl) rfl (by decide)
instance : FuncTy Tryz.prog 183 := ⟨_, _, _, Tryz.underlying183⟩
instance : ZeroOf Tryz.prog 184 [.int .i32 0] := ⟨.int .i32 0, by kernel_rfl, rfl⟩
instance : PlainTy Tryz.prog 184 := ⟨by kernel_rfl⟩
instance : SizeIs Tryz.prog 184 1 := ⟨by kernel_rfl⟩
instance : Elem Tryz.prog 184 1 4 := Elem.of (by kernel_rfl) (by kernel_rfl) rfl (by decide)
instance : IntTy Tryz.prog 184 .i32 := ⟨by kernel_rfl⟩
instance : ZeroOf Tryz.prog 185 [.int .i32 0] := ⟨.int .i32 0, by kernel_rfl, rfl⟩
instance : PlainTy Tryz.prog 185 := ⟨by kernel_rfl⟩
instance : SizeIs Tryz.prog 185 1 := ⟨by kernel_rfl⟩
instance : Elem Tryz.prog 185 1 4 := Elem.of (by kernel_rfl) (by kernel_rfl) rfl (by decide)
instance : IntTy Tryz.prog 185 .i32 := ⟨by kernel_rfl⟩
instance : ZeroOf Tryz.prog 186 [.int .u64 0, .int .u64 0, .int .u32 0, .int .u8 0, .int .u8 0, .int .u8 0, .int .u8 0, .nilFunc, .pointer none, .int .i32 0, .int .i32 0] := ⟨.agg #[.int .u64 0, .int .u64 0, .int .u32 0, .int .u8 0, .int .u8 0, .int .u8 0, .int .u8 0, .nilFunc, .pointer none, .int .i32 0, .int .i32 0], by kernel_rfl, rfl⟩
instance : AggTy Tryz.prog 186 11 := ⟨by kernel_rfl⟩
instance : SizeIs Tryz.prog 186 11 := ⟨by kernel_rfl⟩
instance : Elem Tryz.prog 186 11 48 := Elem.of (by kernel_rfl) (by kernel_rfl) rfl (by decide)
instance : FieldOff Tryz.prog 186 0 0 := ⟨by kernel_rfl⟩
instance : FieldTy Tryz.prog 186 0 12 0 := ⟨by kernel_rfl⟩
instance : FieldOff Tryz.prog 186 1 1 := ⟨by kernel_rfl⟩
instance : FieldTy Tryz.prog 186 1 12 1 := ⟨by kernel_rfl⟩
instance : FieldOff Tryz.prog 186 2 2 := ⟨by kernel_rfl⟩
instance : FieldTy Tryz.prog 186 2 152 2 := ⟨by kernel_rfl⟩
instance : FieldOff Tryz.prog 186 3 3 := ⟨by kernel_rfl⟩
instance : FieldTy Tryz.prog 186 3 181 3 := ⟨by kernel_rfl⟩
instance : FieldOff Tryz.prog 186 4 4 := ⟨by kernel_rfl⟩
instance : FieldTy Tryz.prog 186 4 5 4 := ⟨by kernel_rfl⟩
instance : FieldOff Tryz.prog 186 5 5 := ⟨by kernel_rfl⟩
instance : FieldTy Tryz.prog 186 5 5 5 := ⟨by kernel_rfl⟩
instance : FieldOff Tryz.prog 186 6 6 := ⟨by kernel_rfl⟩
instance : FieldTy Tryz.prog 186 6 182 6 := ⟨by kernel_rfl⟩
instance : FieldOff Tryz.prog 186 7 7 := ⟨by kernel_rfl⟩
instance : FieldTy Tryz.prog 186 7 183 7 := ⟨by kernel_rfl⟩
instance : FieldOff Tryz.prog 186 8 8 := ⟨by kernel_rfl⟩
instance : FieldTy Tryz.prog 186 8 112 8 := ⟨by kernel_rfl⟩
instance : FieldOff Tryz.prog 186 9 9 := ⟨by kernel_rfl⟩
instance : FieldTy Tryz.prog 186 9 184 9 := ⟨by kernel_rfl⟩
instance : FieldOff Tryz.prog 186 10 10 := ⟨by kernel_rfl⟩
instance : FieldTy Tryz.prog 186 10 185 10 := ⟨by kernel_rfl⟩
instance : StructTy Tryz.prog 186 [(0, 1), (1, 1), (2, 1), (3, 1), (4, 1), (5, 1), (6, 1), (7, 1), (8, 1), (9, 1), (10, 1)] := ⟨by kernel_rfl⟩
instance : ZeroOf Tryz.prog 187 [.int .u64 0, .int .u64 0, .int .u32 0, .int .u8 0, .int .u8 0, .int .u8 0, .int .u8 0, .nilFunc, .pointer none, .int .i32 0, .int .i32 0] := ⟨.agg #[.int .u64 0, .int .u64 0, .int .u32 0, .int .u8 0, .int .u8 0, .int .u8 0, .int .u8 0, .nilFunc, .pointer none, .int .i32 0, .int .i32 0], by kernel_rfl, rfl⟩
instance : AggTy Tryz.prog 187 11 := ⟨by kernel_rfl⟩
instance : SizeIs Tryz.prog 187 11 := ⟨by kernel_rfl⟩
instance : Elem Tryz.prog 187 11 48 := Elem.of (by kernel_rfl) (by kernel_rfl) rfl (by decide)
instance : FieldOff Tryz.prog 187 0 0 := ⟨by kernel_rfl⟩
instance : FieldTy Tryz.prog 187 0 12 0 := ⟨by kernel_rfl⟩
instance : FieldOff Tryz.prog 187 1 1 := ⟨by kernel_rfl⟩
instance : FieldTy Tryz.prog 187 1 12 1 := ⟨by kernel_rfl⟩
instance : FieldOff Tryz.prog 187 2 2 := ⟨by kernel_rfl⟩
instance : FieldTy Tryz.prog 187 2 152 2 := ⟨by kernel_rfl⟩
instance : FieldOff Tryz.prog 187 3 3 := ⟨by kernel_rfl⟩
instance : FieldTy Tryz.prog 187 3 181 3 := ⟨by kernel_rfl⟩
instance : FieldOff Tryz.prog 187 4 4 := ⟨by kernel_rfl⟩
instance : FieldTy Tryz.prog 187 4 5 4 := ⟨by kernel_rfl⟩
instance : FieldOff Tryz.prog 187 5 5 := ⟨by kernel_rfl⟩
instance : FieldTy Tryz.prog 187 5 5 5 := ⟨by kernel_rfl⟩
instance : FieldOff Tryz.prog 187 6 6 := ⟨by kernel_rfl⟩
instance : FieldTy Tryz.prog 187 6 182 6 := ⟨by kernel_rfl⟩
instance : FieldOff Tryz.prog 187 7 7 := ⟨by kernel_rfl⟩
instance : FieldTy Tryz.prog 187 7 183 7 := ⟨by kernel_rfl⟩
instance : FieldOff Tryz.prog 187 8 8 := ⟨by kernel_rfl⟩
instance : FieldTy Tryz.prog 187 8 112 8 := ⟨by kernel_rfl⟩
instance : FieldOff Tryz.prog 187 9 9 := ⟨by kernel_rfl⟩
instance : FieldTy Tryz.prog 187 9 184 9 := ⟨by kernel_rfl⟩
instance : FieldOff Tryz.prog 187 10 10 := ⟨by kernel_rfl⟩
instance : FieldTy Tryz.prog 187 10 185 10 := ⟨by kernel_rfl⟩
instance : StructTy Tryz.prog 187 [(0, 1), (1, 1), (2, 1), (3, 1), (4, 1), (5, 1), (6, 1), (7, 1), (8, 1), (9, 1), (10, 1)] := ⟨by kernel_rfl⟩
instance : Ent Tryz.prog 3 := ⟨Go.Proofs.enters_of Tryz.func3 (by kernel_rfl) rfl⟩
instance : Ent Tryz.prog 4 := ⟨Go.Proofs.enters_of Tryz.func4 (by kernel_rfl) rfl⟩
instance : Ent Tryz.prog 5 := ⟨Go.Proofs.enters_of Tryz.func5 (by kernel_rfl) rfl⟩
instance : Ent Tryz.prog 6 := ⟨Go.Proofs.enters_of Tryz.func6 (by kernel_rfl) rfl⟩
instance : Ent Tryz.prog 7 := ⟨Go.Proofs.enters_of Tryz.func7 (by kernel_rfl) rfl⟩
instance : Ent Tryz.prog 8 := ⟨Go.Proofs.enters_of Tryz.func8 (by kernel_rfl) rfl⟩
instance : Ent Tryz.prog 9 := ⟨Go.Proofs.enters_of Tryz.func9 (by kernel_rfl) rfl⟩
instance : Ent Tryz.prog 10 := ⟨Go.Proofs.enters_of Tryz.func10 (by kernel_rfl) rfl⟩
instance : Ent Tryz.prog 11 := ⟨Go.Proofs.enters_of Tryz.func11 (by kernel_rfl) rfl⟩
instance : Ent Tryz.prog 12 := ⟨Go.Proofs.enters_of Tryz.func12 (by kernel_rfl) rfl⟩
instance : Ent Tryz.prog 13 := ⟨Go.Proofs.enters_of Tryz.func13 (by kernel_rfl) rfl⟩
instance : Ent Tryz.prog 14 := ⟨Go.Proofs.enters_of Tryz.func14 (by kernel_rfl) rfl⟩
instance : Ent Tryz.prog 15 := ⟨Go.Proofs.enters_of Tryz.func15 (by kernel_rfl) rfl⟩
instance : Ent Tryz.prog 16 := ⟨Go.Proofs.enters_of Tryz.func16 (by kernel_rfl) rfl⟩
instance : Ent Tryz.prog 17 := ⟨Go.Proofs.enters_of Tryz.func17 (by kernel_rfl) rfl⟩
instance : Ent Tryz.prog 18 := ⟨Go.Proofs.enters_of Tryz.func18 (by kernel_rfl) rfl⟩
instance : Ent Tryz.prog 19 := ⟨Go.Proofs.enters_of Tryz.func19 (by kernel_rfl) rfl⟩
instance : Ent Tryz.prog 20 := ⟨Go.Proofs.enters_of Tryz.func20 (by kernel_rfl) rfl⟩
instance : Ent Tryz.prog 21 := ⟨Go.Proofs.enters_of Tryz.func21 (by kernel_rfl) rfl⟩
instance : Ent Tryz.prog 22 := ⟨Go.Proofs.enters_of Tryz.func22 (by kernel_rfl) rfl⟩
instance : Ent Tryz.prog 23 := ⟨Go.Proofs.enters_of Tryz.func23 (by kernel_rfl) rfl⟩
instance : Ent Tryz.prog 24 := ⟨Go.Proofs.enters_of Tryz.func24 (by kernel_rfl) rfl⟩
instance : Ent Tryz.prog 25 := ⟨Go.Proofs.enters_of Tryz.func25 (by kernel_rfl) rfl⟩
instance : Ent Tryz.prog 26 := ⟨Go.Proofs.enters_of Tryz.func26 (by kernel_rfl) rfl⟩
instance : Ent Tryz.prog 27 := ⟨Go.Proofs.enters_of Tryz.func27 (by kernel_rfl) rfl⟩
instance : Ent Tryz.prog 28 := ⟨Go.Proofs.enters_of Tryz.func28 (by kernel_rfl) rfl⟩
instance : Ent Tryz.prog 29 := ⟨Go.Proofs.enters_of Tryz.func29 (by kernel_rfl) rfl⟩
instance : Ent Tryz.prog 30 := ⟨Go.Proofs.enters_of Tryz.func30 (by kernel_rfl) rfl⟩
instance : Ent Tryz.prog 31 := ⟨Go.Proofs.enters_of Tryz.func31 (by kernel_rfl) rfl⟩
instance : Ent Tryz.prog 32 := ⟨Go.Proofs.enters_of Tryz.func32 (by kernel_rfl) rfl⟩
instance : Ent Tryz.prog 33 := ⟨Go.Proofs.enters_of Tryz.func33 (by kernel_rfl) rfl⟩
instance : Ent Tryz.prog 34 := ⟨Go.Proofs.enters_of Tryz.func34 (by kernel_rfl) rfl⟩
instance : Ent Tryz.prog 35 := ⟨Go.Proofs.enters_of Tryz.func35 (by kernel_rfl) rfl⟩
instance : Ent Tryz.prog 36 := ⟨Go.Proofs.enters_of Tryz.func36 (by kernel_rfl) rfl⟩
instance : Ent Tryz.prog 37 := ⟨Go.Proofs.enters_of Tryz.func37 (by kernel_rfl) rfl⟩
instance : Ent Tryz.prog 38 := ⟨Go.Proofs.enters_of Tryz.func38 (by kernel_rfl) rfl⟩
instance : Ent Tryz.prog 39 := ⟨Go.Proofs.enters_of Tryz.func39 (by kernel_rfl) rfl⟩
instance : Ent Tryz.prog 40 := ⟨Go.Proofs.enters_of Tryz.func40 (by kernel_rfl) rfl⟩
instance : Ent Tryz.prog 41 := ⟨Go.Proofs.enters_of Tryz.func41 (by kernel_rfl) rfl⟩
instance : Ent Tryz.prog 42 := ⟨Go.Proofs.enters_of Tryz.func42 (by kernel_rfl) rfl⟩
instance : Ent Tryz.prog 43 := ⟨Go.Proofs.enters_of Tryz.func43 (by kernel_rfl) rfl⟩
instance : Ent Tryz.prog 44 := ⟨Go.Proofs.enters_of Tryz.func44 (by kernel_rfl) rfl⟩
instance : Ent Tryz.prog 45 := ⟨Go.Proofs.enters_of Tryz.func45 (by kernel_rfl) rfl⟩
instance : Ent Tryz.prog 46 := ⟨Go.Proofs.enters_of Tryz.func46 (by kernel_rfl) rfl⟩
instance : Ent Tryz.prog 47 := ⟨Go.Proofs.enters_of Tryz.func47 (by kernel_rfl) rfl⟩
instance : Ent Tryz.prog 48 := ⟨Go.Proofs.enters_of Tryz.func48 (by kernel_rfl) rfl⟩
instance : Ent Tryz.prog 49 := ⟨Go.Proofs.enters_of Tryz.func49 (by kernel_rfl) rfl⟩
instance : Ent Tryz.prog 50 := ⟨Go.Proofs.enters_of Tryz.func50 (by kernel_rfl) rfl⟩
instance : Ent Tryz.prog 51 := ⟨Go.Proofs.enters_of Tryz.func51 (by kernel_rfl) rfl⟩
instance : Ent Tryz.prog 52 := ⟨Go.Proofs.enters_of Tryz.func52 (by kernel_rfl) rfl⟩
instance : Ent Tryz.prog 53 := ⟨Go.Proofs.enters_of Tryz.func53 (by kernel_rfl) rfl⟩
instance : Ent Tryz.prog 54 := ⟨Go.Proofs.enters_of Tryz.func54 (by kernel_rfl) rfl⟩
instance : Ent Tryz.prog 55 := ⟨Go.Proofs.enters_of Tryz.func55 (by kernel_rfl) rfl⟩
instance : Ent Tryz.prog 56 := ⟨Go.Proofs.enters_of Tryz.func56 (by kernel_rfl) rfl⟩
instance : Ent Tryz.prog 57 := ⟨Go.Proofs.enters_of Tryz.func57 (by kernel_rfl) rfl⟩
instance : Ent Tryz.prog 58 := ⟨Go.Proofs.enters_of Tryz.func58 (by kernel_rfl) rfl⟩
instance : Ent Tryz.prog 59 := ⟨Go.Proofs.enters_of Tryz.func59 (by kernel_rfl) rfl⟩
instance : Ent Tryz.prog 60 := ⟨Go.Proofs.enters_of Tryz.func60 (by kernel_rfl) rfl⟩
instance : Ent Tryz.prog 61 := ⟨Go.Proofs.enters_of Tryz.func61 (by kernel_rfl) rfl⟩
instance : Ent Tryz.prog 62 := ⟨Go.Proofs.enters_of Tryz.func62 (by kernel_rfl) rfl⟩
instance : Ent Tryz.prog 63 := ⟨Go.Proofs.enters_of Tryz.func63 (by kernel_rfl) rfl⟩
instance : Ent Tryz.prog 64 := ⟨Go.Proofs.enters_of Tryz.func64 (by kernel_rfl) rfl⟩
instance : Ent Tryz.prog 65 := ⟨Go.Proofs.enters_of Tryz.func65 (by kernel_rfl) rfl⟩
instance : Ent Tryz.prog 66 := ⟨Go.Proofs.enters_of Tryz.func66 (by kernel_rfl) rfl⟩
instance : Ent Tryz.prog 67 := ⟨Go.Proofs.enters_of Tryz.func67 (by kernel_rfl) rfl⟩
instance : Ent Tryz.prog 68 := ⟨Go.Proofs.enters_of Tryz.func68 (by kernel_rfl) rfl⟩
instance : Ent Tryz.prog 69 := ⟨Go.Proofs.enters_of Tryz.func69 (by kernel_rfl) rfl⟩
instance : Ent Tryz.prog 70 := ⟨Go.Proofs.enters_of Tryz.func70 (by kernel_rfl) rfl⟩
instance : Ent Tryz.prog 71 := ⟨Go.Proofs.enters_of Tryz.func71 (by kernel_rfl) rfl⟩
instance : Ent Tryz.prog 72 := ⟨Go.Proofs.enters_of Tryz.func72 (by kernel_rfl) rfl⟩
instance : Ent Tryz.prog 73 := ⟨Go.Proofs.enters_of Tryz.func73 (by kernel_rfl) rfl⟩
instance : Ent Tryz.prog 74 := ⟨Go.Proofs.enters_of Tryz.func74 (by kernel_rfl) rfl⟩
instance : Ent Tryz.prog 75 := ⟨Go.Proofs.enters_of Tryz.func75 (by kernel_rfl) rfl⟩
instance : Ent Tryz.prog 76 := ⟨Go.Proofs.enters_of Tryz.func76 (by kernel_rfl) rfl⟩
instance : Ent Tryz.prog 77 := ⟨Go.Proofs.enters_of Tryz.func77 (by kernel_rfl) rfl⟩
instance : Ent Tryz.prog 78 := ⟨Go.Proofs.enters_of Tryz.func78 (by kernel_rfl) rfl⟩
instance : Ent Tryz.prog 79 := ⟨Go.Proofs.enters_of Tryz.func79 (by kernel_rfl) rfl⟩
instance : Ent Tryz.prog 80 := ⟨Go.Proofs.enters_of Tryz.func80 (by kernel_rfl) rfl⟩
instance : Ent Tryz.prog 81 := ⟨Go.Proofs.enters_of Tryz.func81 (by kernel_rfl) rfl⟩
instance : Ent Tryz.prog 84 := ⟨Go.Proofs.enters_of Tryz.func84 (by kernel_rfl) rfl⟩
instance : Ent Tryz.prog 85 := ⟨Go.Proofs.enters_of Tryz.func85 (by kernel_rfl) rfl⟩
instance : Ent Tryz.prog 87 := ⟨Go.Proofs.enters_of Tryz.func87 (by kernel_rfl) rfl⟩
instance : Ent Tryz.prog 88 := ⟨Go.Proofs.enters_of Tryz.func88 (by kernel_rfl) rfl⟩
instance : Ent Tryz.prog 89 := ⟨Go.Proofs.enters_of Tryz.func89 (by kernel_rfl) rfl⟩
instance : Ent Tryz.prog 90 := ⟨Go.Proofs.enters_of Tryz.func90 (by kernel_rfl) rfl⟩
instance : Ent Tryz.prog 91 := ⟨Go.Proofs.enters_of Tryz.func91 (by kernel_rfl) rfl⟩
instance : Ent Tryz.prog 93 := ⟨Go.Proofs.enters_of Tryz.func93 (by kernel_rfl) rfl⟩
instance : Ent Tryz.prog 94 := ⟨Go.Proofs.enters_of Tryz.func94 (by kernel_rfl) rfl⟩
instance : Ent Tryz.prog 95 := ⟨Go.Proofs.enters_of Tryz.func95 (by kernel_rfl) rfl⟩
instance : Ent Tryz.prog 96 := ⟨Go.Proofs.enters_of Tryz.func96 (by kernel_rfl) rfl⟩
instance : Ent Tryz.prog 97 := ⟨Go.Proofs.enters_of Tryz.func97 (by kernel_rfl) rfl⟩
instance : Ent Tryz.prog 99 := ⟨Go.Proofs.enters_of Tryz.func99 (by kernel_rfl) rfl⟩
instance : Ent Tryz.prog 100 := ⟨Go.Proofs.enters_of Tryz.func100 (by kernel_rfl) rfl⟩
instance : Ent Tryz.prog 101 := ⟨Go.Proofs.enters_of Tryz.func101 (by kernel_rfl) rfl⟩
instance : Ent Tryz.prog 102 := ⟨Go.Proofs.enters_of Tryz.func102 (by kernel_rfl) rfl⟩
instance : Ent Tryz.prog 103 := ⟨Go.Proofs.enters_of Tryz.func103 (by kernel_rfl) rfl⟩
instance : Ent Tryz.prog 104 := ⟨Go.Proofs.enters_of Tryz.func104 (by kernel_rfl) rfl⟩
instance : Ent Tryz.prog 105 := ⟨Go.Proofs.enters_of Tryz.func105 (by kernel_rfl) rfl⟩
instance : Ent Tryz.prog 106 := ⟨Go.Proofs.enters_of Tryz.func106 (by kernel_rfl) rfl⟩
instance : Ent Tryz.prog 107 := ⟨Go.Proofs.enters_of Tryz.func107 (by kernel_rfl) rfl⟩
instance : Ent Tryz.prog 108 := ⟨Go.Proofs.enters_of Tryz.func108 (by kernel_rfl) rfl⟩
instance : Ent Tryz.prog 109 := ⟨Go.Proofs.enters_of Tryz.func109 (by kernel_rfl) rfl⟩
instance : Ent Tryz.prog 110 := ⟨Go.Proofs.enters_of Tryz.func110 (by kernel_rfl) rfl⟩
instance : Ent Tryz.prog 111 := ⟨Go.Proofs.enters_of Tryz.func111 (by kernel_rfl) rfl⟩
instance : Ent Tryz.prog 112 := ⟨Go.Proofs.enters_of Tryz.func112 (by kernel_rfl) rfl⟩
instance : Ent Tryz.prog 113 := ⟨Go.Proofs.enters_of Tryz.func113 (by kernel_rfl) rfl⟩
instance : Ent Tryz.prog 114 := ⟨Go.Proofs.enters_of Tryz.func114 (by kernel_rfl) rfl⟩
instance : Ent Tryz.prog 115 := ⟨Go.Proofs.enters_of Tryz.func115 (by kernel_rfl) rfl⟩
instance : Ent Tryz.prog 116 := ⟨Go.Proofs.enters_of Tryz.func116 (by kernel_rfl) rfl⟩
instance : Ent Tryz.prog 117 := ⟨Go.Proofs.enters_of Tryz.func117 (by kernel_rfl) rfl⟩
instance : Ent Tryz.prog 118 := ⟨Go.Proofs.enters_of Tryz.func118 (by kernel_rfl) rfl⟩
instance : Ent Tryz.prog 119 := ⟨Go.Proofs.enters_of Tryz.func119 (by kernel_rfl) rfl⟩
instance : Ent Tryz.prog 120 := ⟨Go.Proofs.enters_of Tryz.func120 (by kernel_rfl) rfl⟩
instance : Ent Tryz.prog 121 := ⟨Go.Proofs.enters_of Tryz.func121 (by kernel_rfl) rfl⟩
instance : Ent Tryz.prog 122 := ⟨Go.Proofs.enters_of Tryz.func122 (by kernel_rfl) rfl⟩
instance : Ent Tryz.prog 123 := ⟨Go.Proofs.enters_of Tryz.func123 (by kernel_rfl) rfl⟩
instance : Ent Tryz.prog 124 := ⟨Go.Proofs.enters_of Tryz.func124 (by kernel_rfl) rfl⟩
instance : Ent Tryz.prog 125 := ⟨Go.Proofs.enters_of Tryz.func125 (by kernel_rfl) rfl⟩
instance : Ent Tryz.prog 126 := ⟨Go.Proofs.enters_of Tryz.func126 (by kernel_rfl) rfl⟩
instance : Ent Tryz.prog 127 := ⟨Go.Proofs.enters_of Tryz.func127 (by kernel_rfl) rfl⟩
instance : Ent Tryz.prog 128 := ⟨Go.Proofs.enters_of Tryz.func128 (by kernel_rfl) rfl⟩
instance : Ent Tryz.prog 129 := ⟨Go.Proofs.enters_of Tryz.func129 (by kernel_rfl) rfl⟩
instance : Ent Tryz.prog 130 := ⟨Go.Proofs.enters_of Tryz.func130 (by kernel_rfl) rfl⟩
instance : Ent Tryz.prog 131 := ⟨Go.Proofs.enters_of Tryz.func131 (by kernel_rfl) rfl⟩
instance : Ent Tryz.prog 132 := ⟨Go.Proofs.enters_of Tryz.func132 (by kernel_rfl) rfl⟩
end Go.Proofs.YtjlmpghcjgbfjaaGreatDoor.Ex
namespace Go.Proofs.YtjlmpghcjgbfjaaGreatDoor.Cd
abbrev Info := List UInt8 × Nat × Nat × Nat × Bool × Nat
def alone : List (Nat × Info) := [
 (0, ([83, 84, 79, 80], 0, 0, 0, false, 0)),
 (1, ([65, 68, 68], 2, 1, 3, true, 0)),
 (2, ([77, 85, 76], 2, 1, 5, true, 0)),
 (3, ([83, 85, 66], 2, 1, 3, true, 0)),
 (4, ([68, 73, 86], 2, 1, 5, true, 0)),
 (5, ([83, 68, 73, 86], 2, 1, 5, true, 0)),
 (6, ([77, 79, 68], 2, 1, 5, true, 0)),
 (7, ([83, 77, 79, 68], 2, 1, 5, true, 0)),
 (8, ([65, 68, 68, 77, 79, 68], 3, 1, 8, true, 0)),
 (9, ([77, 85, 76, 77, 79, 68], 3, 1, 8, true, 0)),
 (10, ([69, 88, 80], 2, 1, 10, false, 0)),
 (11, ([83, 73, 71, 78, 69, 88, 84, 69, 78, 68], 2, 1, 5, true, 0)),
 (16, ([76, 84], 2, 1, 3, true, 0)),
 (17, ([71, 84], 2, 1, 3, true, 0)),
 (18, ([83, 76, 84], 2, 1, 3, true, 0)),
 (19, ([83, 71, 84], 2, 1, 3, true, 0)),
 (20, ([69, 81], 2, 1, 3, true, 0)),
 (21, ([73, 83, 90, 69, 82, 79], 1, 1, 3, true, 0)),
 (22, ([65, 78, 68], 2, 1, 3, true, 0)),
 (23, ([79, 82], 2, 1, 3, true, 0)),
 (24, ([88, 79, 82], 2, 1, 3, true, 0)),
 (25, ([78, 79, 84], 1, 1, 3, true, 0)),
 (26, ([66, 89, 84, 69], 2, 1, 3, true, 0)),
 (27, ([83, 72, 76], 2, 1, 3, true, 0)),
 (28, ([83, 72, 82], 2, 1, 3, true, 0)),
 (29, ([83, 65, 82], 2, 1, 3, true, 0)),
 (32, ([75, 69, 67, 67, 65, 75, 50, 53, 54], 2, 1, 30, false, 0)),
 (48, ([65, 68, 68, 82, 69, 83, 83], 0, 1, 2, true, 0)),
 (49, ([66, 65, 76, 65, 78, 67, 69], 1, 1, 0, false, 0)),
 (50, ([79, 82, 73, 71, 73, 78], 0, 1, 2, true, 0)),
 (51, ([67, 65, 76, 76, 69, 82], 0, 1, 2, true, 0)),
 (52, ([67, 65, 76, 76, 86, 65, 76, 85, 69], 0, 1, 2, true, 0)),
 (53, ([67, 65, 76, 76, 68, 65, 84, 65, 76, 79, 65, 68], 1, 1, 3, false, 0)),
 (54, ([67, 65, 76, 76, 68, 65, 84, 65, 83, 73, 90, 69], 0, 1, 2, true, 0)),
 (55, ([67, 65, 76, 76, 68, 65, 84, 65, 67, 79, 80, 89], 3, 0, 3, false, 0)),
 (56, ([67, 79, 68, 69, 83, 73, 90, 69], 0, 1, 2, true, 0)),
 (57, ([67, 79, 68, 69, 67, 79, 80, 89], 3, 0, 3, false, 0)),
 (58, ([71, 65, 83, 80, 82, 73, 67, 69], 0, 1, 2, true, 0)),
 (59, ([69, 88, 84, 67, 79, 68, 69, 83, 73, 90, 69], 1, 1, 0, false, 0)),
 (60, ([69, 88, 84, 67, 79, 68, 69, 67, 79, 80, 89], 4, 0, 0, false, 0)),
 (61, ([82, 69, 84, 85, 82, 78, 68, 65, 84, 65, 83, 73, 90, 69], 0, 1, 2, true, 0)),
 (62, ([82, 69, 84, 85, 82, 78, 68, 65, 84, 65, 67, 79, 80, 89], 3, 0, 3, false, 0)),
 (63, ([69, 88, 84, 67, 79, 68, 69, 72, 65, 83, 72], 1, 1, 0, false, 0)),
 (64, ([66, 76, 79, 67, 75, 72, 65, 83, 72], 1, 1, 20, false, 0)),
 (65, ([67, 79, 73, 78, 66, 65, 83, 69], 0, 1, 2, true, 0)),
 (66, ([84, 73, 77, 69, 83, 84, 65, 77, 80], 0, 1, 2, true, 0)),
 (67, ([78, 85, 77, 66, 69, 82], 0, 1, 2, true, 0)),
 (68, ([80, 82, 69, 86, 82, 65, 78, 68, 65, 79], 0, 1, 2, true, 0)),
 (69, ([71, 65, 83, 76, 73, 77, 73, 84], 0, 1, 2, true, 0)),
 (70, ([67, 72, 65, 73, 78, 73, 68], 0, 1, 2, true, 0)),
 (71, ([83, 69, 76, 70, 66, 65, 76, 65, 78, 67, 69], 0, 1, 5, false, 0)),
 (72, ([66, 65, 83, 69, 70, 69, 69], 0, 1, 2, true, 0)),
 (80, ([80, 79, 80], 1, 0, 2, true, 0)),
 (81, ([77, 76, 79, 65, 68], 1, 1, 3, false, 0)),
 (82, ([77, 83, 84, 79, 82, 69], 2, 0, 3, false, 0)),
 (83, ([77, 83, 84, 79, 82, 69, 56], 2, 0, 3, false, 0)),
 (84, ([83, 76, 79, 65, 68], 1, 1, 0, false, 0)),
 (85, ([83, 83, 84, 79, 82, 69], 2, 0, 0, false, 0)),
 (86, ([74, 85, 77, 80], 1, 0, 8, false, 0)),
 (87, ([74, 85, 77, 80, 73], 2, 0, 10, false, 0)),
 (88, ([80, 67], 0, 1, 2, true, 0)),
 (89, ([77, 83, 73, 90, 69], 0, 1, 2, true, 0)),
 (90, ([71, 65, 83], 0, 1, 2, false, 0)),
 (91, ([74, 85, 77, 80, 68, 69, 83, 84], 0, 0, 1, true, 0)),
 (95, ([80, 85, 83, 72, 48], 0, 1, 2, true, 0)),
 (240, ([67, 82, 69, 65, 84, 69], 3, 1, 32000, false, 0)),
 (241, ([67, 65, 76, 76], 7, 1, 0, false, 0)),
 (242, ([67, 65, 76, 76, 67, 79, 68, 69], 7, 1, 0, false, 0)),
 (243, ([82, 69, 84, 85, 82, 78], 2, 0, 0, false, 0)),
 (244, ([68, 69, 76, 69, 71, 65, 84, 69, 67, 65, 76, 76], 6, 1, 0, false, 0)),
 (245, ([67, 82, 69, 65, 84, 69, 50], 4, 1, 32000, false, 0)),
 (250, ([83, 84, 65, 84, 73, 67, 67, 65, 76, 76], 6, 1, 0, false, 0)),
 (253, ([82, 69, 86, 69, 82, 84], 2, 0, 0, false, 0)),
 (254, ([73, 78, 86, 65, 76, 73, 68], 0, 0, 0, false, 0)),
 (255, ([83, 69, 76, 70, 68, 69, 83, 84, 82, 85, 67, 84], 1, 0, 5000, false, 0))]
def dec (n : Nat) : List UInt8 := if n < 10 then [UInt8.ofNat (48 + n)] else [UInt8.ofNat (48 + n / 10), UInt8.ofNat (48 + n % 10)]
def fam (op : Nat) : Option Info :=
 if 96 ≤ op ∧ op ≤ 127 then some ([80, 85, 83, 72] ++ dec (op - 95), 0, 1, 3, true, op - 95)
 else if 128 ≤ op ∧ op ≤ 143 then some ([68, 85, 80] ++ dec (op - 127), op - 127, op - 126, 3, true, 0)
 else if 144 ≤ op ∧ op ≤ 159 then some ([83, 87, 65, 80] ++ dec (op - 143), op - 142, op - 142, 3, true, 0)
 else if 160 ≤ op ∧ op ≤ 164 then some ([76, 79, 71] ++ dec (op - 160), op - 158, 0, 375 * (op - 159), false, 0)
 else none
def info (op : Nat) : Option Info := match alone.find? (fun x => x.1 == op) with
 | some x => some x.2
 | none => fam op
def sz (op : Nat) : Nat := if 96 ≤ op ∧ op ≤ 127 then op - 95 else 0
def isNamed (nm : List UInt8) (op : Nat) : Bool := match info op with
 | some x => x.1 == nm
 | none => false
def named (nm : List UInt8) : Option Nat := (List.range 256).find? (isNamed nm)
/-- the reference's thirds of the ops that stand alone -/
def find (l : List (Nat × Info)) (op : Nat) : Option Info := (l.find? (fun x => x.1 == op)).map (·.2)
def lowI (op : Nat) : Option Info := find (alone.take 25) op
def midI (op : Nat) : Option Info := find ((alone.drop 25).take 25) op
def highI (op : Nat) : Option Info := find (alone.drop 50) op
def nameOf (x : Option Info) : List UInt8 := match x with
 | some y => y.1
 | none => []
def opsN : Nat → List UInt8 → Nat → List Nat
 | 0, _, _ => []
 | n + 1, c, k => if k < c.length then k :: opsN n c (k + 1 + sz (c.getD k 0).toNat) else []
def ops (c : List UInt8) : List Nat := opsN c.length c 0
def marks (c : List UInt8) : List Nat := (ops c).filter (fun k => (c.getD k 0) == 91)
def hexd (n : Nat) : UInt8 := UInt8.ofNat (if n < 10 then 48 + n else 87 + n)
def hexs (l : List UInt8) : List UInt8 := l.flatMap fun b => [hexd (b.toNat / 16), hexd (b.toNat % 16)]
def hex (l : List UInt8) : List UInt8 := 48 :: 120 :: hexs l
def pad (k : Nat) (r : List UInt8) : List UInt8 := r.take k ++ List.replicate (k - r.length) 0
def wordsOf (b : UInt8) (r : List UInt8) : List (List UInt8) := match info b.toNat with
 | none => [hex [b]]
 | some x => if sz b.toNat = 0 then [x.1] else [x.1, hex (pad (sz b.toNat) r)]
def wordsN : Nat → List UInt8 → List (List UInt8)
 | 0, _ => []
 | _ + 1, [] => []
 | n + 1, b :: r => wordsOf b r ++ wordsN n (r.drop (sz b.toNat))
def words (c : List UInt8) : List (List UInt8) := wordsN c.length c
def join (ws : List (List UInt8)) : List UInt8 := List.intercalate [32] ws
def text (c : List UInt8) : List UInt8 := join (words c)
def fillN : Nat → List UInt8 → List UInt8
 | 0, _ => []
 | _ + 1, [] => []
 | n + 1, b :: r => b :: (pad (sz b.toNat) r ++ fillN n (r.drop (sz b.toNat)))
def fill (c : List UInt8) : List UInt8 := fillN c.length c
def digit (c : UInt8) : Option Nat := if 48 ≤ c.toNat ∧ c.toNat ≤ 57 then some (c.toNat - 48) else if 97 ≤ c.toNat ∧ c.toNat ≤ 102 then some (c.toNat - 87) else none
def unhexs : List UInt8 → Option (List UInt8)
 | [] => some []
 | [_] => none
 | x :: y :: r => match digit x, digit y with
  | some a, some b => (unhexs r).map (UInt8.ofNat (16 * a + b) :: ·)
  | _, _ => none
def unhex (s : List UInt8) : Option (List UInt8) := match s with
 | 48 :: 120 :: r => unhexs r
 | _ => none
/-- so many bytes -/
def bytesOf (n : Nat) (s : List UInt8) : Option (List UInt8) := match unhex s with
 | some b => if b.length = n then some b else none
 | none => none
def parseW : List (List UInt8) → Option (List UInt8)
 | [] => some []
 | x :: r => match named x with
  | some op => if sz op = 0 then (parseW r).map (UInt8.ofNat op :: ·) else match r with
   | [] => none
   | y :: r' => match bytesOf (sz op) y with
    | some b => (parseW r').map fun t => UInt8.ofNat op :: (b ++ t)
    | none => none
  | none => match bytesOf 1 x with
   | some [b] => if (info b.toNat).isSome then none else (parseW r).map (b :: ·)
   | _ => none
/-- a text's parts between blanks -/
def splitGo : List UInt8 → List UInt8 → List (List UInt8)
 | part, [] => [part]
 | part, c :: r => if c = 32 then part :: splitGo [] r else splitGo (part ++ [c]) r
def split (s : List UInt8) : List (List UInt8) := splitGo [] s
inductive Read where
 | code (l : List UInt8)
 | long
 | bad
def parse (s : List UInt8) : Read := if 65536 < s.length then .long else if s = [] then .code [] else match parseW (split s) with
 | some l => .code l
 | none => .bad
theorem upto (p : Nat → Bool) (n : Nat) (h : (List.range n).all p = true) (k : Nat) (hk : k < n) : p k = true :=
 List.all_eq_true.1 h k (List.mem_range.2 hk)
theorem size_known (op : Nat) (x : Info) (ho : op < 256) (h : info op = some x) : x.2.2.2.2.2 = sz op := by
 have := upto (fun op => match info op with | some x => x.2.2.2.2.2 == sz op | none => true) 256 (by decide +kernel) op ho
 simp only [h] at this
 exact eq_of_beq this
theorem size_none (op : Nat) (ho : op < 256) (h : info op = none) : sz op = 0 := by
 have := upto (fun op => match info op with | some _ => true | none => sz op == 0) 256 (by decide +kernel) op ho
 simp only [h] at this
 exact eq_of_beq this
theorem named_known (op : Nat) (x : Info) (ho : op < 256) (h : info op = some x) : named x.1 = some op := by
 have := upto (fun op => match info op with | some x => named x.1 == some op | none => true) 256 (by decide +kernel) op ho
 simp only [h] at this
 exact eq_of_beq this
theorem name_plain (op : Nat) (x : Info) (ho : op < 256) (h : info op = some x) : (x.1.all (· != 32) && decide (0 < x.1.length) && decide (x.1.length ≤ 14)) = true := by
 have := upto (fun op => match info op with | some x => (x.1.all (· != 32) && decide (0 < x.1.length) && decide (x.1.length ≤ 14)) | none => true) 256 (by decide +kernel) op ho
 simpa only [h] using this
theorem name_no_hex (op : Nat) (x : Info) (ho : op < 256) (h : info op = some x) : unhex x.1 = none := by
 have := upto (fun op => match info op with | some x => (unhex x.1).isNone | none => true) 256 (by decide +kernel) op ho
 simp only [h] at this
 exact Option.isNone_iff_eq_none.1 this
theorem named_info (nm : List UInt8) (op : Nat) (h : named nm = some op) : op < 256 ∧ ∃ x, info op = some x ∧ x.1 = nm := by
 have h1 := List.mem_of_find?_eq_some h
 have h2 := List.find?_some h
 refine ⟨List.mem_range.1 h1, ?_⟩
 unfold isNamed at h2
 cases hi : info op with
 | none => rw [hi] at h2; cases h2
 | some x => rw [hi] at h2; exact ⟨x, rfl, eq_of_beq h2⟩
theorem sz_le (op : Nat) : sz op ≤ 32 := by unfold sz; split <;> omega
theorem hexd_ok (n : Nat) (h : n < 16) : digit (hexd n) = some n ∧ hexd n ≠ 32 := by
 have := upto (fun n => digit (hexd n) == some n && (hexd n != 32)) 16 (by decide +kernel) n h
 simp only [Bool.and_eq_true, beq_iff_eq, bne_iff_ne] at this
 exact this
theorem digit_hexd (c : UInt8) (n : Nat) (h : digit c = some n) : n < 16 ∧ hexd n = c := by
 have := upto (fun c => match digit (UInt8.ofNat c) with | some n => decide (n < 16) && hexd n == UInt8.ofNat c | none => true) 256 (by decide +kernel) c.toNat c.toNat_lt
 simp only [UInt8.ofNat_toNat, h, Bool.and_eq_true, decide_eq_true_eq, beq_iff_eq] at this
 exact this
theorem unhexs_hexs : ∀ l : List UInt8, unhexs (hexs l) = some l
 | [] => rfl
 | b :: r => by
  have hb : b.toNat < 256 := b.toNat_lt
  have h1 := hexd_ok (b.toNat / 16) (by omega)
  have h2 := hexd_ok (b.toNat % 16) (by omega)
  have e : hexs (b :: r) = hexd (b.toNat / 16) :: hexd (b.toNat % 16) :: hexs r := rfl
  rw [e, unhexs, h1.1, h2.1, unhexs_hexs r]
  simp only [Option.map_some]
  congr 2
  rw [show 16 * (b.toNat / 16) + b.toNat % 16 = b.toNat by omega]
  exact UInt8.ofNat_toNat
theorem unhex_hex (l : List UInt8) : unhex (hex l) = some l := unhexs_hexs l
theorem hexs_unhexs : ∀ (s l : List UInt8), unhexs s = some l → hexs l = s
 | [], l, h => by cases h; rfl
 | [_], l, h => by cases h
 | x :: y :: r, l, h => by
  rw [unhexs] at h
  cases hx : digit x with
  | none => rw [hx] at h; cases h
  | some a =>
   cases hy : digit y with
   | none => rw [hx, hy] at h; cases h
   | some b =>
    rw [hx, hy] at h
    simp only [Option.map_eq_some_iff] at h
    obtain ⟨t, ht, rfl⟩ := h
    have h1 := digit_hexd x a hx
    have h2 := digit_hexd y b hy
    have e : (UInt8.ofNat (16 * a + b)).toNat = 16 * a + b := by
     rw [UInt8.toNat_ofNat']; omega
    show hexd ((UInt8.ofNat (16 * a + b)).toNat / 16) :: hexd ((UInt8.ofNat (16 * a + b)).toNat % 16) :: hexs t = _
    rw [e, show (16 * a + b) / 16 = a by omega, show (16 * a + b) % 16 = b by omega, h1.2, h2.2, hexs_unhexs r t ht]
theorem hex_unhex (s l : List UInt8) (h : unhex s = some l) : hex l = s := by
 unfold unhex at h
 split at h
 · unfold hex; rw [hexs_unhexs _ _ h]
 · cases h
theorem hexs_length : ∀ l : List UInt8, (hexs l).length = 2 * l.length
 | [] => rfl
 | b :: r => by
  have e : hexs (b :: r) = hexd (b.toNat / 16) :: hexd (b.toNat % 16) :: hexs r := rfl
  rw [e]; simp [hexs_length r]; omega
theorem hexs_plain : ∀ l : List UInt8, (hexs l).all (· != 32) = true
 | [] => rfl
 | b :: r => by
  have hb : b.toNat < 256 := b.toNat_lt
  have h1 := (hexd_ok (b.toNat / 16) (by omega)).2
  have h2 := (hexd_ok (b.toNat % 16) (by omega)).2
  have e : hexs (b :: r) = hexd (b.toNat / 16) :: hexd (b.toNat % 16) :: hexs r := rfl
  rw [e]; simp [h1, h2]
  simpa using hexs_plain r
theorem hex_plain (l : List UInt8) : (hex l).all (· != 32) = true := by
 unfold hex
 have := hexs_plain l
 simp only [List.all_cons, this, Bool.and_true]
 decide
theorem hex_named (l : List UInt8) : named (hex l) = none := by
 cases h : named (hex l) with
 | none => rfl
 | some op =>
  obtain ⟨ho, x, hx, e⟩ := named_info _ _ h
  have := name_no_hex op x ho hx
  rw [e, unhex_hex] at this
  cases this
theorem pad_length (k : Nat) (r : List UInt8) : (pad k r).length = k := by unfold pad; simp; omega
theorem bytesOf_hex (n : Nat) (l : List UInt8) (h : l.length = n) : bytesOf n (hex l) = some l := by
 unfold bytesOf; rw [unhex_hex]; simp [h]
theorem bytesOf_some (n : Nat) (s l : List UInt8) (h : bytesOf n s = some l) : hex l = s ∧ l.length = n := by
 unfold bytesOf at h
 cases hu : unhex s with
 | none => rw [hu] at h; cases h
 | some b =>
  rw [hu] at h
  dsimp only at h
  split at h
  · cases h; exact ⟨hex_unhex _ _ hu, by assumption⟩
  · cases h
theorem parseW_words : ∀ (n : Nat) (c : List UInt8), c.length ≤ n → parseW (wordsN n c) = some (fillN n c)
 | 0, c, h => by rw [wordsN, fillN, parseW]
 | n + 1, [], _ => by rw [wordsN, fillN, parseW]
 | n + 1, b :: r, h => by
  have hb : b.toNat < 256 := b.toNat_lt
  have ih := parseW_words n (r.drop (sz b.toNat)) (by simp at h ⊢; omega)
  rw [wordsN, fillN]
  unfold wordsOf
  cases hi : info b.toNat with
  | none =>
   have h0 := size_none b.toNat hb hi
   dsimp only
   rw [h0] at ih
   rw [h0]
   simp only [List.cons_append, List.nil_append]
   rw [parseW, hex_named, bytesOf_hex 1 [b] rfl]
   simp only [hi, Option.isSome_none, Bool.false_eq_true, if_false, ih, Option.map_some]
   simp [pad]
  | some x =>
   have hn := named_known b.toNat x hb hi
   dsimp only
   by_cases h0 : sz b.toNat = 0
   · rw [if_pos h0]
     rw [h0] at ih
     rw [h0]
     simp only [List.cons_append, List.nil_append]
     rw [parseW, hn]
     simp only [h0, if_true, ih, Option.map_some, UInt8.ofNat_toNat]
     simp [pad]
   · rw [if_neg h0]
     simp only [List.cons_append, List.nil_append]
     rw [parseW, hn]
     simp only [h0, if_false, bytesOf_hex _ _ (pad_length (sz b.toNat) r), ih, Option.map_some, UInt8.ofNat_toNat]
theorem words_parseW : ∀ (m : Nat) (ws : List (List UInt8)), ws.length ≤ m → ∀ a, parseW ws = some a → ∀ n, a.length ≤ n → wordsN n a = ws
 | m, [], _, a, h, n, _ => by
  rw [parseW] at h; cases h
  cases n <;> rfl
 | 0, _ :: _, h, _, _, _, _ => by simp at h
 | m + 1, x :: r, hm, a, h, n, hn => by
  rw [parseW] at h
  cases hx : named x with
  | some op =>
   rw [hx] at h
   obtain ⟨ho, i, hi, rfl⟩ := named_info _ _ hx
   have e : (UInt8.ofNat op).toNat = op := by rw [UInt8.toNat_ofNat']; omega
   dsimp only at h
   split at h
   · rename_i h0
     simp only [Option.map_eq_some_iff] at h
     obtain ⟨t, ht, rfl⟩ := h
     cases n with
     | zero => simp at hn
     | succ n =>
      have ih := words_parseW m r (by simp at hm; omega) t ht n (by simp at hn; omega)
      rw [wordsN]; unfold wordsOf
      rw [e, hi]
      simp [h0, ih]
   · rename_i h0
     cases r with
     | nil => cases h
     | cons y r' =>
      dsimp only at h
      cases hb : bytesOf (sz op) y with
      | none => rw [hb] at h; cases h
      | some b =>
       rw [hb] at h
       simp only [Option.map_eq_some_iff] at h
       obtain ⟨t, ht, rfl⟩ := h
       obtain ⟨rfl, hl⟩ := bytesOf_some _ _ _ hb
       cases n with
       | zero => simp at hn
       | succ n =>
        have ih := words_parseW m r' (by simp at hm; omega) t ht n (by simp at hn; omega)
        rw [wordsN]; unfold wordsOf
        rw [e, hi]
        have hp : pad (sz op) (b ++ t) = b := by
         unfold pad
         rw [← hl]
         simp
        simp [h0, hp]
        rw [← hl, List.drop_left]; exact ih
  | none =>
   rw [hx] at h
   dsimp only at h
   split at h
   · rename_i b hb
     obtain ⟨rfl, _⟩ := bytesOf_some _ _ _ hb
     split at h
     · cases h
     · rename_i hk
       simp only [Option.map_eq_some_iff] at h
       obtain ⟨t, ht, rfl⟩ := h
       cases n with
       | zero => simp at hn
       | succ n =>
        have ih := words_parseW m r (by simp at hm; omega) t ht n (by simp at hn; omega)
        have hi : info b.toNat = none := by simpa using hk
        have h0 := size_none b.toNat b.toNat_lt hi
        rw [wordsN]; unfold wordsOf
        rw [hi, h0]
        simp [ih]
   · cases h
theorem splitGo_plain : ∀ (x part r : List UInt8), x.all (· != 32) = true → splitGo part (x ++ r) = splitGo (part ++ x) r
 | [], part, r, _ => by simp
 | c :: x, part, r, h => by
  simp only [List.all_cons, Bool.and_eq_true, bne_iff_ne] at h
  rw [List.cons_append, splitGo, if_neg h.1, splitGo_plain x _ r h.2]
  simp
theorem join_cons2 (x y : List UInt8) (ws : List (List UInt8)) : join (x :: y :: ws) = x ++ 32 :: join (y :: ws) := by
 simp [join, List.intercalate]
theorem join_one (x : List UInt8) : join [x] = x := by simp [join, List.intercalate]
theorem split_join : ∀ (ws : List (List UInt8)), ws ≠ [] → (∀ x ∈ ws, x.all (· != 32) = true) → split (join ws) = ws
 | [], h, _ => absurd rfl h
 | [x], _, h => by
  rw [join_one, split]
  have := splitGo_plain x [] [] (h x (by simp))
  simp only [List.append_nil, List.nil_append] at this
  rw [this, splitGo]
 | x :: y :: ws, _, h => by
  rw [join_cons2, split]
  have := splitGo_plain x [] (32 :: join (y :: ws)) (h x (by simp))
  rw [this, List.nil_append, splitGo, if_pos rfl]
  have ih := split_join (y :: ws) (by simp) (fun z hz => h z (by simp [hz]))
  rw [split] at ih
  rw [ih]
theorem splitGo_ne : ∀ (s part : List UInt8), splitGo part s ≠ []
 | [], part => by simp [splitGo]
 | c :: r, part => by
  rw [splitGo]
  split
  · simp
  · exact splitGo_ne r _
theorem join_splitGo : ∀ (s part : List UInt8), join (splitGo part s) = part ++ s
 | [], part => by simp [splitGo, join_one]
 | c :: r, part => by
  rw [splitGo]
  split
  · rename_i h
    subst h
    have ih := join_splitGo r []
    cases hs : splitGo [] r with
    | nil => exact absurd hs (splitGo_ne r [])
    | cons y ws => rw [join_cons2, ← hs, ih]; simp
  · rw [join_splitGo r (part ++ [c])]; simp
theorem join_split (s : List UInt8) : join (split s) = s := by
 rw [split, join_splitGo]; simp
theorem wordsN_plain : ∀ (n : Nat) (c : List UInt8), ∀ x ∈ wordsN n c, x.all (· != 32) = true ∧ x.length ≤ 66
 | 0, c => by simp [wordsN]
 | n + 1, [] => by simp [wordsN]
 | n + 1, b :: r => by
  intro x hx
  rw [wordsN, List.mem_append] at hx
  rcases hx with hx | hx
  · unfold wordsOf at hx
    cases hi : info b.toNat with
    | none =>
     rw [hi] at hx
     simp only [List.mem_singleton] at hx
     subst hx
     exact ⟨hex_plain _, by simp [hex, hexs_length]⟩
    | some i =>
     rw [hi] at hx
     have hp := name_plain b.toNat i b.toNat_lt hi
     simp only [Bool.and_eq_true, decide_eq_true_eq] at hp
     dsimp only at hx
     split at hx
     · simp only [List.mem_singleton] at hx
       subst hx
       exact ⟨hp.1.1, by omega⟩
     · simp only [List.mem_cons, List.not_mem_nil, or_false] at hx
       rcases hx with rfl | rfl
       · exact ⟨hp.1.1, by omega⟩
       · refine ⟨hex_plain _, ?_⟩
         have := sz_le b.toNat
         simp only [hex, List.length_cons, hexs_length, pad_length]; omega
  · exact wordsN_plain n _ x hx
theorem wordsOf_length (b : UInt8) (r : List UInt8) : 0 < (wordsOf b r).length ∧ (wordsOf b r).length ≤ 2 := by
 unfold wordsOf
 split
 · simp
 · split <;> simp
theorem wordsN_length : ∀ (n : Nat) (c : List UInt8), (wordsN n c).length ≤ 2 * c.length
 | 0, c => by simp [wordsN]
 | n + 1, [] => by simp [wordsN]
 | n + 1, b :: r => by
  have := wordsN_length n (r.drop (sz b.toNat))
  have := (wordsOf_length b r).2
  rw [wordsN]; simp at *; omega
theorem words_ne (c : List UInt8) (h : c ≠ []) : words c ≠ [] := by
 cases c with
 | nil => exact absurd rfl h
 | cons b r =>
  have := (wordsOf_length b r).1
  intro e
  unfold words at e
  rw [List.length_cons, wordsN] at e
  have e1 := congrArg List.length e
  simp at e1; simp [e1.1] at this
theorem join_length : ∀ (ws : List (List UInt8)), (∀ x ∈ ws, x.length ≤ 66) → (join ws).length ≤ 67 * ws.length
 | [], _ => by simp [join, List.intercalate]
 | [x], h => by rw [join_one]; have := h x (by simp); simp; omega
 | x :: y :: ws, h => by
  have := h x (by simp)
  have := join_length (y :: ws) (fun z hz => h z (by simp [hz]))
  rw [join_cons2]; simp at *; omega
theorem text_length (c : List UInt8) : (text c).length ≤ 134 * c.length := by
 have h1 := join_length (words c) (fun x hx => (wordsN_plain _ _ x hx).2)
 have h2 := wordsN_length c.length c
 unfold text words at *
 omega
theorem join_ne : ∀ (ws : List (List UInt8)), ws ≠ [] → (∀ x ∈ ws, 0 < x.length) → join ws ≠ []
 | [], h, _ => absurd rfl h
 | [x], _, h => by rw [join_one]; have := h x (by simp); intro e; simp [e] at this
 | x :: y :: ws, _, h => by rw [join_cons2]; simp
theorem wordsN_pos : ∀ (n : Nat) (c : List UInt8), ∀ x ∈ wordsN n c, 0 < x.length
 | 0, c => by simp [wordsN]
 | n + 1, [] => by simp [wordsN]
 | n + 1, b :: r => by
  intro x hx
  rw [wordsN, List.mem_append] at hx
  rcases hx with hx | hx
  · unfold wordsOf at hx
    cases hi : info b.toNat with
    | none => rw [hi] at hx; simp only [List.mem_singleton] at hx; subst hx; simp [hex]
    | some i =>
     rw [hi] at hx
     have hp := name_plain b.toNat i b.toNat_lt hi
     simp only [Bool.and_eq_true, decide_eq_true_eq] at hp
     dsimp only at hx
     split at hx
     · simp only [List.mem_singleton] at hx
       subst hx; exact hp.1.2
     · simp only [List.mem_cons, List.not_mem_nil, or_false] at hx
       rcases hx with rfl | rfl
       · exact hp.1.2
       · simp [hex]
  · exact wordsN_pos n _ x hx
/-- **the code of code's text is the code, filled up** -/
theorem parse_text (c : List UInt8) (h : c.length ≤ 300) : parse (text c) = .code (fill c) := by
 have hl := text_length c
 unfold parse
 rw [if_neg (by omega)]
 by_cases hc : c = []
 · subst hc
   rw [if_pos (by rfl)]; rfl
 · rw [if_neg (show text c ≠ [] from join_ne _ (words_ne c hc) (wordsN_pos _ _))]
   rw [text, split_join _ (words_ne c hc) (fun x hx => (wordsN_plain _ _ x hx).1)]
   unfold words
   rw [parseW_words _ _ (Nat.le_refl _)]
   rfl
/-- **the text of a text's code is the text** -/
theorem text_parse (s a : List UInt8) (h : parse s = .code a) : text a = s := by
 unfold parse at h
 split at h
 · cases h
 · split at h
   · rename_i _ e
     cases h; rw [e]; rfl
   · cases hp : parseW (split s) with
     | none => rw [hp] at h; cases h
     | some l =>
      rw [hp] at h
      injection h with h
      subst h
      unfold text words
      rw [words_parseW _ _ (Nat.le_refl _) _ hp _ (Nat.le_refl _), join_split]
theorem fillN_spec : ∀ (n : Nat) (c : List UInt8), c.length ≤ n → ∃ k, k ≤ 32 ∧ fillN n c = c ++ List.replicate k 0
 | 0, c, h => by
  have : c = [] := by simpa using h
  subst this
  exact ⟨0, by omega, rfl⟩
 | n + 1, [], _ => ⟨0, by omega, rfl⟩
 | n + 1, b :: r, h => by
  have hs := sz_le b.toNat
  by_cases hr : sz b.toNat ≤ r.length
  · obtain ⟨k, hk, e⟩ := fillN_spec n (r.drop (sz b.toNat)) (by simp at h ⊢; omega)
    refine ⟨k, hk, ?_⟩
    rw [fillN, e]
    unfold pad
    rw [show sz b.toNat - r.length = 0 by omega]
    simp
    rw [← List.append_assoc, List.take_append_drop]
  · refine ⟨sz b.toNat - r.length, by omega, ?_⟩
    rw [fillN]
    unfold pad
    rw [List.drop_eq_nil_of_le (by omega), List.take_of_length_le (by omega)]
    cases n <;> simp [fillN]
theorem fill_spec (c : List UInt8) : ∃ k, k ≤ 32 ∧ fill c = c ++ List.replicate k 0 := fillN_spec _ _ (Nat.le_refl _)
theorem text_fill (c : List UInt8) (h : c.length ≤ 300) : text (fill c) = text c := text_parse _ _ (parse_text c h)
end Go.Proofs.YtjlmpghcjgbfjaaGreatDoor.Cd
namespace Go.Proofs.YtjlmpghcjgbfjaaGreatDoor.Cw
open Go Go.RowKit Go.Proofs Ex Cd
set_option maxRecDepth 100000
theorem size_ret (op : UInt8) (w : World) : Rets Tryz.prog 22 [byt op] w fun v w' => v = int (sz op.toNat) ∧ Below w.heap.size w w' := by
 have hb := op.toNat_lt
 by_cases h1 : 95 < op.toNat
 · by_cases h2 : op.toNat ≤ 127
   · refine enter Tryz.func22 rfl (Nat.le_of_ble_eq_true rfl) ?_
     intro a h; rw [Tryz.ntmps22] at h
     have hF := Fd.wide; have H := St.begin w
     repeat refine cS0 ?_
     refine cR0 ?_
     refine sA0 hF h rfl rfl (by decide) ?_
     clear h; intro a h
     first | refine cEt0 ?_ | refine cE0 ?_
     repeat refine cS0 ?_
     refine cR0 ?_
     refine sM0 hF h rfl rfl (by decide) ?_
     clear h; intro a h
     (first | (refine iC0 hF h rfl rfl rfl (i_gtr_t (by omega)) (by decide) ?_) | (refine iC0 hF h rfl rfl rfl (i_gtr_f (by omega)) (by decide) ?_))
     clear h; intro a h
     refine sM0 hF h rfl rfl (by decide) ?_
     clear h; intro a h
     first | (refine sK0 hF h rfl (by decide) ?_; clear h; intro a h) | (refine sM0 hF h rfl rfl (by decide) ?_; clear h; intro a h)
     first | (refine sK0 hF h rfl (by decide) ?_; clear h; intro a h) | ((first | (refine iC0 hF h rfl rfl rfl (i_leq_t (by omega)) (by decide) ?_) | (refine iC0 hF h rfl rfl rfl (i_leq_f (by omega)) (by decide) ?_)); clear h; intro a h)
     refine s_pick hF h rfl rfl rfl (by decide) ?_
     clear h; intro a h
     first | refine cEt0 ?_ | refine cE0 ?_
     repeat refine cS0 ?_
     refine c_condT h rfl ?_
     repeat refine cS0 ?_
     refine cR0 ?_
     refine sM0 hF h rfl rfl (by decide) ?_
     clear h; intro a h
     refine i_convByte hF h rfl rfl (by decide) ?_ (by decide)
     clear h; intro a h
     refine i_ar64 hF h rfl rfl rfl rfl (by omega) (by omega) (by decide) ?_
     clear h; intro a h
     refine sA0 hF h rfl rfl (by decide) ?_
     clear h; intro a h
     refine cEt0 ?_
     refine c_ret ?_
     with_reducible repeat (first | refine xa0 ?_ | refine xb0 ?_ | refine xc0 ?_ | refine xd0 ?_ | refine xe0 (by decide) ?_ | refine xf0 ?_ | refine xg0 ?_ | refine xh0 ?_ | refine xi0 ?_)
     refine leave (fn := Tryz.f22) h Tryz.results22 (.tmp rfl .nil) ?_
     exact ⟨_, rfl, by simp only [sz, tupleOf]; rw [if_pos (by omega)]; congr 1; omega, H.done⟩
   · refine enter Tryz.func22 rfl (Nat.le_of_ble_eq_true rfl) ?_
     intro a h; rw [Tryz.ntmps22] at h
     have hF := Fd.wide; have H := St.begin w
     repeat refine cS0 ?_
     refine cR0 ?_
     refine sA0 hF h rfl rfl (by decide) ?_
     clear h; intro a h
     first | refine cEt0 ?_ | refine cE0 ?_
     repeat refine cS0 ?_
     refine cR0 ?_
     refine sM0 hF h rfl rfl (by decide) ?_
     clear h; intro a h
     (first | (refine iC0 hF h rfl rfl rfl (i_gtr_t (by omega)) (by decide) ?_) | (refine iC0 hF h rfl rfl rfl (i_gtr_f (by omega)) (by decide) ?_))
     clear h; intro a h
     refine sM0 hF h rfl rfl (by decide) ?_
     clear h; intro a h
     first | (refine sK0 hF h rfl (by decide) ?_; clear h; intro a h) | (refine sM0 hF h rfl rfl (by decide) ?_; clear h; intro a h)
     first | (refine sK0 hF h rfl (by decide) ?_; clear h; intro a h) | ((first | (refine iC0 hF h rfl rfl rfl (i_leq_t (by omega)) (by decide) ?_) | (refine iC0 hF h rfl rfl rfl (i_leq_f (by omega)) (by decide) ?_)); clear h; intro a h)
     refine s_pick hF h rfl rfl rfl (by decide) ?_
     clear h; intro a h
     first | refine cEt0 ?_ | refine cE0 ?_
     repeat refine cS0 ?_
     refine c_condF h rfl ?_
     first | refine cKt0 ?_ | refine cK0 ?_
     repeat refine cS0 ?_
     refine cR0 ?_
     refine sA0 hF h rfl rfl (by decide) ?_
     clear h; intro a h
     first | refine cEt0 ?_ | refine cE0 ?_
     refine c_ret ?_
     with_reducible repeat (first | refine xa0 ?_ | refine xb0 ?_ | refine xc0 ?_ | refine xd0 ?_ | refine xe0 (by decide) ?_ | refine xf0 ?_ | refine xg0 ?_ | refine xh0 ?_ | refine xi0 ?_)
     refine leave (fn := Tryz.f22) h Tryz.results22 (.tmp rfl .nil) ?_
     exact ⟨_, rfl, by simp only [sz, tupleOf]; rw [if_neg (by omega)]; rfl, H.done⟩
 · refine enter Tryz.func22 rfl (Nat.le_of_ble_eq_true rfl) ?_
   intro a h; rw [Tryz.ntmps22] at h
   have hF := Fd.wide; have H := St.begin w
   repeat refine cS0 ?_
   refine cR0 ?_
   refine sA0 hF h rfl rfl (by decide) ?_
   clear h; intro a h
   first | refine cEt0 ?_ | refine cE0 ?_
   repeat refine cS0 ?_
   refine cR0 ?_
   refine sM0 hF h rfl rfl (by decide) ?_
   clear h; intro a h
   (first | (refine iC0 hF h rfl rfl rfl (i_gtr_t (by omega)) (by decide) ?_) | (refine iC0 hF h rfl rfl rfl (i_gtr_f (by omega)) (by decide) ?_))
   clear h; intro a h
   refine sM0 hF h rfl rfl (by decide) ?_
   clear h; intro a h
   first | (refine sK0 hF h rfl (by decide) ?_; clear h; intro a h) | (refine sM0 hF h rfl rfl (by decide) ?_; clear h; intro a h)
   first | (refine sK0 hF h rfl (by decide) ?_; clear h; intro a h) | ((first | (refine iC0 hF h rfl rfl rfl (i_leq_t (by omega)) (by decide) ?_) | (refine iC0 hF h rfl rfl rfl (i_leq_f (by omega)) (by decide) ?_)); clear h; intro a h)
   refine s_pick hF h rfl rfl rfl (by decide) ?_
   clear h; intro a h
   first | refine cEt0 ?_ | refine cE0 ?_
   repeat refine cS0 ?_
   refine c_condF h rfl ?_
   first | refine cKt0 ?_ | refine cK0 ?_
   repeat refine cS0 ?_
   refine cR0 ?_
   refine sA0 hF h rfl rfl (by decide) ?_
   clear h; intro a h
   first | refine cEt0 ?_ | refine cE0 ?_
   refine c_ret ?_
   with_reducible repeat (first | refine xa0 ?_ | refine xb0 ?_ | refine xc0 ?_ | refine xd0 ?_ | refine xe0 (by decide) ?_ | refine xf0 ?_ | refine xg0 ?_ | refine xh0 ?_ | refine xi0 ?_)
   refine leave (fn := Tryz.f22) h Tryz.results22 (.tmp rfl .nil) ?_
   exact ⟨_, rfl, by simp only [sz, tupleOf]; rw [if_neg (by omega)]; rfl, H.done⟩
end Go.Proofs.YtjlmpghcjgbfjaaGreatDoor.Cw
namespace Go.Proofs.YtjlmpghcjgbfjaaGreatDoor.Ex
open Go Go.RowKit
def pureOp : Op → Bool
 | .move _ | .assign _ | .pick .. | .load .. | .binOp .. | .unOp .. | .convert .. | .build .. | .slice .. | .fieldAddr .. | .field .. | .indexAddr .. | .index .. | .lookup .. | .extract .. | .nilCheck _ => true
 | .call c => match c.callee with
  | .builtin .len | .builtin .cap | .builtin .min | .builtin .max | .builtin .unsafeSliceData | .builtin .unsafeString => true
  | _ => false
 | _ => false
def Vals (s : Sem Next) : Prop := ∀ P w, (∃ u w', s.run P w = .ok (.value u) w') ∨ ∃ x w', s.run P w = .halt x w'
theorem Vals.pure (v : Value) : Vals (Pure.pure (.value v)) := fun _ w => .inl ⟨v, w, rfl⟩
theorem Vals.bind {α : Type} (s : Sem α) {f : α → Sem Next} (h : ∀ x, Vals (f x)) : Vals (s >>= f) := fun P w => by
 show (∃ u w', (s >>= f).run P w = _) ∨ _
 simp only [Sem.run_bind]
 cases s.run P w with
 | ok x w' => exact h x P w'
 | halt x w' => exact .inr ⟨x, w', rfl⟩
theorem Vals.halts {s : Sem Next} (h : ∀ P w, ∃ x w', s.run P w = .halt x w') : Vals s := fun P w => .inr (h P w)
theorem vals_of_pureOp {o : Oper} (h : pureOp o.op = true) (ρ : Operand → Value) : Vals (execOp ρ o) := by
 obtain ⟨dst, op, ty, ps, af, g⟩ := o
 cases op <;> simp only [pureOp, Bool.false_eq_true] at h
 case call c =>
  obtain ⟨callee, args, argTypes⟩ := c
  cases callee <;> simp only [Bool.false_eq_true] at h
  case builtin b =>
   cases b <;> simp only [Bool.false_eq_true] at h <;>
   · simp only [execOp, resolve, invoke, pure_bind, builtin]
     exact Vals.bind _ fun v => Vals.pure v
 case nilCheck x =>
  simp only [execOp]
  split
  · exact Vals.halts fun P w => ⟨_, _, rfl⟩
  · exact Vals.halts fun P w => ⟨_, _, rfl⟩
  · exact Vals.halts fun P w => ⟨_, _, rfl⟩
  · split
    · exact Vals.halts fun P w => ⟨_, _, rfl⟩
    · refine Vals.bind _ fun _ => Vals.bind _ fun _ => ?_
      split
      · exact Vals.bind _ fun _ => Vals.pure _
      · exact Vals.pure _
    · exact Vals.pure _
  · exact Vals.pure _
 all_goals simp only [execOp]
 all_goals first
  | exact Vals.pure _
  | exact Vals.bind _ fun v => Vals.pure _
def dep (md : Region.Mode) (ops : Array Oper) (i j : Nat) : Bool := match nth ops.toList j with
 | some o => o.after.toList.any fun e => Region.binds md e && Nat.beq e.on i
 | none => false
/-- one of these has come up -/
def ph (M : List Nat) (listed : Array Bool) : Bool := M.any fun m => listed.getD m false
section
variable {F : Fence} {n : Nat} {P : Program} {ops : Array Oper} {Q : Exit → Act → World → Prop} {a : Act} {w : World} {md : Region.Mode} {S : World → Prop} {M : List Nat}
variable {N : Nat} {ds : List Deferred} {T : List (Nat × Value)} {n0 : Nat} {w0 : World} {L L' : List (Nat × Obj)}
def wpAnyS (F : Fence) (n : Nat) (P : Program) (md : Region.Mode) (ops : Array Oper) (Q : Exit → Act → World → Prop) (S : World → Prop) (M : List Nat) : Nat → Array Bool → Act → World → Prop
 | 0, listed, a, w => Region.ready md ops listed = [] ∧ Q .normal a w
 | fuel + 1, listed, a, w =>
  (Region.ready md ops listed = [] → Q .normal a w) ∧
  ∀ i ∈ Region.ready md ops listed, wpOpIn F n P ops Q i (fun a' w' => (ph M (listed.setIfInBounds i true) = false → S w') ∧ wpAnyS F n P md ops Q S M fuel (listed.setIfInBounds i true) a' w') a w
theorem wpAnyIn_of_S : ∀ (fuel : Nat) (listed : Array Bool) (a : Act) (w : World), wpAnyS F n P md ops Q S M fuel listed a w → wpAnyIn F n P md ops Q fuel listed a w
 | 0, _, _, _, h => h
 | fuel + 1, _, _, _, h => ⟨h.1, fun i hi => wpOpIn_mono (fun a' w' h' => wpAnyIn_of_S fuel _ a' w' h'.2) (h.2 i hi)⟩
def YieldsS (P : Program) (ops : Array Oper) (S : World → Prop) (o : Oper) (v : Value) (a : Act) : Prop :=
 (Region.wanted o (yielded ops a.tmps) = true ∧ ∀ w, S w → (execOp a.eval o).run P w = .ok (.value v) w) ∨
 (Region.wanted o (yielded ops a.tmps) = false ∧ v = undef)
theorem YieldsS.of_same {o : Oper} {v : Value} {a a' : Act} (hy : YieldsS P ops S o v a) (he : execOp a'.eval o = execOp a.eval o)
 (hw : Region.wanted o (yielded ops a'.tmps) = Region.wanted o (yielded ops a.tmps)) : YieldsS P ops S o v a' := by
 unfold YieldsS at *
 rw [he, hw]
 exact hy
theorem YieldsS.wpOpIn {i : Nat} {o : Oper} {v : Value} {a : Act} (hF : Fd F) (hnd : ∀ c, o.op ≠ .defer c) (hi : ops[i]? = some o) (hy : YieldsS P ops S o v a)
 {K : Act → World → Prop} {w : World} (hS : S w) (h : K (a.put o.dst v) w) : wpOpIn F n P ops Q i K a w := by
 unfold Go.wpOpIn
 simp only [hi]
 rcases hy with ⟨hw, hv⟩ | ⟨hw, rfl⟩
 · simp only [hw, if_true, Oper.wpIn, Oper.semAt_plain F _ _ hnd, hv w hS, Oper.uponIn]; exact ⟨fun f _ => hF.fn f, h⟩
 · simp only [hw, Bool.false_eq_true, if_false]; exact ⟨fun f _ => hF.fn f, h⟩
theorem wpOpIn_putS {j : Nat} {oi oj : Oper} {v : Value} (hnd : ∀ c, oj.op ≠ .defer c) (hj : ops[j]? = some oj) (hap : oi.apart ops oj = true)
 (hsi : ∀ cs b, oi.op ≠ .select cs b) (hsj : ∀ cs b, oj.op ≠ .select cs b)
 (hQ : ∀ c a w, Q (.panic c) (a.put oi.dst v) w → Q (.panic c) a w) {K : Act → World → Prop} {a : Act} {w : World}
 (hy : YieldsS P ops S oi v a) (h : wpOpIn F n P ops Q j K (a.put oi.dst v) w) :
 wpOpIn F n P ops Q j (fun a' w' => YieldsS P ops S oi v a' ∧ K (a'.put oi.dst v) w') a w := by
 obtain ⟨h1, h2, h3⟩ := Oper.apart_spec hap
 have keep : ∀ (a : Act), YieldsS P ops S oi v a → ∀ u, YieldsS P ops S oi v (a.put oj.dst u) := fun a hy u =>
  hy.of_same (execOp_put oi hsi a oj.dst u h3) (wanted_put oi a oj.dst u h3)
 have keepD : ∀ d, YieldsS P ops S oi v { a with defers := d :: a.defers } := fun d => hy.of_same rfl rfl
 unfold Go.wpOpIn at *
 simp only [hj] at *
 rw [wanted_put oj a oi.dst v h1, about_put oj w a oi.dst v h1] at h
 split
 · rename_i hw
   simp only [hw, if_true] at h
   unfold Oper.wpIn at *
   rw [about_put oj w a oi.dst v h1] at h
   refine ⟨h.1, ?_⟩
   have h := h.2
   rw [Oper.semAt_plain F _ _ hnd, execOp_put oj hsj a oi.dst v h1] at h
   rw [Oper.semAt_plain F _ _ hnd]
   generalize (execOp a.eval oj).run P w = r at *
   cases r with
   | ok x w' =>
    cases x <;> simp only [Oper.uponIn] at h ⊢
    case value u => exact ⟨keep a hy u, by rw [← Act.put_comm a v u h2]; exact h⟩
    case skip => exact ⟨keep a hy _, by rw [← Act.put_comm a v undef h2]; exact h⟩
    case defer d =>
     refine ⟨keep _ (keepD d) _, ?_⟩
     rw [← Act.put_comm _ v undef h2, ← Act.put_defers]
     exact h
    case enter f args =>
     refine ⟨h.1, CallsIn.mono h.2 fun e w'' he => ?_⟩
     cases e with
     | returned u => exact ⟨keep a hy u, by rw [← Act.put_comm a v u h2]; exact he⟩
     | panicked c => exact hQ _ _ _ he
     | outgrown => exact he
    case row row args => exact ⟨h.1, RowsIn.mono h.2 fun u w'' he => ⟨keep a hy u, by rw [← Act.put_comm a v u h2]; exact he⟩⟩
    case round l f tmps assign body =>
     refine ⟨h.1, RoundIn.mono h.2 fun e w'' he => ?_⟩
     cases e with
     | returned u => exact ⟨keep a hy u, by rw [← Act.put_comm a v u h2]; exact he⟩
     | panicked c => exact hQ _ _ _ he
     | outgrown => exact he
   | halt x w' =>
    cases x <;> simp only [Oper.uponIn] at h ⊢
    case panic u => exact hQ _ _ _ h
 · rename_i hw
   simp only [hw] at h
   exact ⟨h.1, keep a hy _, by rw [← Act.put_comm a v undef h2]; exact h.2⟩
theorem dep_of {i j : Nat} {o : Oper} (hj : ops[j]? = some o) (h : dep md ops i j = true) : ∃ e ∈ o.after, Region.binds md e = true ∧ e.on = i := by
 unfold dep at h
 rw [nth_eq, Array.getElem?_toList, hj] at h
 simp only [List.any_eq_true, Bool.and_eq_true] at h
 obtain ⟨e, he, hb, hn⟩ := h
 exact ⟨e, by simpa using he, hb, Nat.eq_of_beq_eq_true hn⟩
theorem ph_set {listed : Array Bool} {j : Nat} (h : ¬ j ∈ M) : ph M (listed.setIfInBounds j true) = ph M listed := by
 unfold ph
 have key : ∀ (l : List Nat), (∀ m ∈ l, m ≠ j) → (l.any fun m => (listed.setIfInBounds j true).getD m false) = l.any fun m => listed.getD m false := by
  intro l
  induction l with
  | nil => intro _; rfl
  | cons m l ih =>
   intro hne
   rw [List.any_cons, List.any_cons, ih (fun m hm => hne m (List.mem_cons_of_mem _ hm)), getD_set_ne false (Ne.symm (hne m (List.mem_cons_self ..)))]
 exact key M fun m hm e => h (e ▸ hm)
theorem wpAnyS_first {i : Nat} {oi : Oper} {v : Value} (hF : Fd F) (hnd : ∀ (j : Nat) (o : Oper) c, ops[j]? = some o → o.op ≠ .defer c) (hi : ops[i]? = some oi) (hsel : ∀ (j : Nat) (o : Oper) cs b, ops[j]? = some o → o.op ≠ .select cs b)
 (hQ : ∀ c a w, Q (.panic c) (a.put oi.dst v) w → Q (.panic c) a w) (hiM : ¬ i ∈ M) (hM : ∀ m ∈ M, dep md ops i m = true) :
 ∀ (fuel : Nat) (listed : Array Bool) (a : Act) (w : World),
  (∀ j oj, ops[j]? = some oj → j ≠ i → listed.getD j true = false → (∀ e ∈ oj.after, Region.binds md e = true → e.on ≠ i) → oi.apart ops oj = true) →
  i ∈ Region.ready md ops listed → YieldsS P ops (fun w => ph M listed = false → S w) oi v a → (ph M listed = false → S w) →
  wpAnyS F n P md ops Q S M fuel (listed.setIfInBounds i true) (a.put oi.dst v) w → wpAnyS F n P md ops Q S M (fuel + 1) listed a w := by
 intro fuel
 induction fuel with
 | zero =>
  intro listed a w _ hr hy hS H
  refine ⟨fun h => (by rw [h] at hr; cases hr), fun j hj => ?_⟩
  by_cases hji : j = i
  · subst hji; exact hy.wpOpIn hF (fun c => hnd _ _ c hi) hi hS ⟨fun h => hS (by rw [← h, ph_set hiM]), H⟩
  · have := ready_mono hj hji
    rw [H.1] at this
    cases this
 | succ fuel ih =>
  intro listed a w hfree hr hy hS H
  refine ⟨fun h => (by rw [h] at hr; cases hr), fun j hj => ?_⟩
  by_cases hji : j = i
  · subst hji; exact hy.wpOpIn hF (fun c => hnd _ _ c hi) hi hS ⟨fun h => hS (by rw [← h, ph_set hiM]), H⟩
  · have h1 := H.2 j (ready_mono hj hji)
    obtain ⟨hjun, oj, hoj, hall⟩ := mem_ready.1 hj
    have hnot : ∀ e ∈ oj.after, Region.binds md e = true → e.on ≠ i := fun e he hb heq => by
     have h1 := hall e he hb
     have h0 := (mem_ready.1 hr).1
     rw [heq] at h1
     rcases Nat.lt_or_ge i listed.size with h' | h'
     · simp [h'] at h0 h1; rw [h0] at h1; cases h1
     · simp [Array.getElem?_eq_none h'] at h1
    have hjM : ¬ j ∈ M := fun hm => by
     obtain ⟨e, he, hb, hn⟩ := dep_of hoj (hM j hm)
     exact hnot e he hb hn
    have h2 := wpOpIn_putS (fun c => hnd _ _ c hoj) hoj (hfree j oj hoj hji hjun hnot) (fun cs b => hsel i oi cs b hi) (fun cs b => hsel j oj cs b hoj) hQ hy h1
    have hfree' : ∀ k ok, ops[k]? = some ok → k ≠ i → (listed.setIfInBounds j true).getD k true = false →
     (∀ e ∈ ok.after, Region.binds md e = true → e.on ≠ i) → oi.apart ops ok = true := fun k ok hk hki hun hno => by
     refine hfree k ok hk hki ?_ hno
     by_cases hjk : j = k
     · subst hjk; exact hjun
     · rw [getD_set_ne true hjk] at hun; exact hun
    refine wpOpIn_mono (fun a' w' h3 => ⟨fun hph => h3.2.1 (by rw [ph_set hjM, ph_set hiM]; rw [ph_set hjM] at hph; exact hph), ih (listed.setIfInBounds j true) a' w' hfree' (ready_mono hr (Ne.symm hji)) (by rw [ph_set hjM]; exact h3.1) (fun hph => h3.2.1 (by rw [ph_set hjM, ph_set hiM]; rw [ph_set hjM] at hph; exact hph)) ?_⟩) h2
    rw [Array.setIfInBounds_comm _ _ hji]
    exact h3.2.2
theorem wpAnyS_first0 {i : Nat} {oi : Oper} {v : Value} (hF : Fd F) (hnd : ∀ (j : Nat) (o : Oper) c, ops[j]? = some o → o.op ≠ .defer c) (hi : ops[i]? = some oi) (hsel : ∀ (j : Nat) (o : Oper) cs b, ops[j]? = some o → o.op ≠ .select cs b)
 (hQ : ∀ c a w, Q (.panic c) (a.put oi.dst v) w → Q (.panic c) a w) (hiM : ¬ i ∈ M) :
 ∀ (fuel : Nat) (listed : Array Bool) (a : Act) (w : World),
  (∀ j oj, ops[j]? = some oj → j ≠ i → listed.getD j true = false → (∀ e ∈ oj.after, Region.binds md e = true → e.on ≠ i) → oi.apart ops oj = true) →
  i ∈ Region.ready md ops listed → YieldsS P ops (fun _ => True) oi v a → (ph M listed = false → S w) →
  wpAnyS F n P md ops Q S M fuel (listed.setIfInBounds i true) (a.put oi.dst v) w → wpAnyS F n P md ops Q S M (fuel + 1) listed a w := by
 intro fuel
 induction fuel with
 | zero =>
  intro listed a w _ hr hy hS H
  refine ⟨fun h => (by rw [h] at hr; cases hr), fun j hj => ?_⟩
  by_cases hji : j = i
  · subst hji; exact hy.wpOpIn hF (fun c => hnd _ _ c hi) hi trivial ⟨fun h => hS (by rw [← h, ph_set hiM]), H⟩
  · have := ready_mono hj hji
    rw [H.1] at this
    cases this
 | succ fuel ih =>
  intro listed a w hfree hr hy hS H
  refine ⟨fun h => (by rw [h] at hr; cases hr), fun j hj => ?_⟩
  by_cases hji : j = i
  · subst hji; exact hy.wpOpIn hF (fun c => hnd _ _ c hi) hi trivial ⟨fun h => hS (by rw [← h, ph_set hiM]), H⟩
  · have h1 := H.2 j (ready_mono hj hji)
    obtain ⟨hjun, oj, hoj, hall⟩ := mem_ready.1 hj
    have hnot : ∀ e ∈ oj.after, Region.binds md e = true → e.on ≠ i := fun e he hb heq => by
     have h1 := hall e he hb
     have h0 := (mem_ready.1 hr).1
     rw [heq] at h1
     rcases Nat.lt_or_ge i listed.size with h' | h'
     · simp [h'] at h0 h1; rw [h0] at h1; cases h1
     · simp [Array.getElem?_eq_none h'] at h1
    have h2 := wpOpIn_putS (fun c => hnd _ _ c hoj) hoj (hfree j oj hoj hji hjun hnot) (fun cs b => hsel i oi cs b hi) (fun cs b => hsel j oj cs b hoj) hQ hy h1
    have hfree' : ∀ k ok, ops[k]? = some ok → k ≠ i → (listed.setIfInBounds j true).getD k true = false →
     (∀ e ∈ ok.after, Region.binds md e = true → e.on ≠ i) → oi.apart ops ok = true := fun k ok hk hki hun hno => by
     refine hfree k ok hk hki ?_ hno
     by_cases hjk : j = k
     · subst hjk; exact hjun
     · rw [getD_set_ne true hjk] at hun; exact hun
    have hS' : ∀ {w'}, (ph M ((listed.setIfInBounds i true).setIfInBounds j true) = false → S w') → ph M (listed.setIfInBounds j true) = false → S w' := fun h hph => h (by rw [Array.setIfInBounds_comm _ _ (Ne.symm hji), ph_set hiM]; exact hph)
    refine wpOpIn_mono (fun a' w' h3 => ⟨hS' h3.2.1, ih (listed.setIfInBounds j true) a' w' hfree' (ready_mono hr (Ne.symm hji)) h3.1 (hS' h3.2.1) ?_⟩) h2
    rw [Array.setIfInBounds_comm _ _ hji]
    exact h3.2.2
def noDefer (ops : Array Oper) : Bool := ops.toList.all fun o => match o.op with | .defer _ => false | .select .. => false | _ => true
theorem noDefer_spec (h : noDefer ops = true) {j : Nat} {o : Oper} (ho : ops[j]? = some o) : (∀ c, o.op ≠ .defer c) ∧ ∀ cs b, o.op ≠ .select cs b := by
 have := List.all_eq_true.1 h o (by simpa using Array.mem_of_getElem? ho)
 constructor
 · intro c hc; simp [hc] at this
 · intro c b hc; simp [hc] at this
/-- what is said of a panic does not hang on this temporary -/
def NPd (Q : Exit → Act → World → Prop) (d : Nat) : Prop := ∀ c a v w, Q (.panic c) (a.put (some d) v) w → Q (.panic c) a w
def NoP (Q : Exit → Act → World → Prop) : Exit → Act → World → Prop
 | .panic _, _, _ => False
 | e, a, w => Q e a w
theorem NoP.np {d : Nat} : NPd (NoP Q) d := fun _ _ _ _ h => h.elim
theorem NoP.imp : ∀ e a w, NoP Q e a w → Q e a w := fun e a w h => by cases e <;> first | exact h | exact h.elim
/-- which have come up -/
def marks : Array Bool → List Nat → Array Bool
 | l, [] => l
 | l, i :: is => (marks l is).setIfInBounds i true
/-- how far a drawn region's walk is -/
structure Dr (F : Fence) (n : Nat) (P : Program) (ops : Array Oper) (Q : Exit → Act → World → Prop) (S : World → Prop) (M : List Nat) (fuel : Nat) (done : List Nat) (a : Act) (w : World) : Prop where
 go : wpAnyS F n P .any ops Q S M fuel (marks (Array.replicate ops.size false) done) a w
def okPure (ops : Array Oper) (M done : List Nat) (i : Nat) : Bool :=
 noDefer ops && Region.free .any ops (marks (Array.replicate ops.size false) done) i && (Region.ready .any ops (marks (Array.replicate ops.size false) done)).any (Nat.beq i) && !M.any (Nat.beq i) && M.all (fun m => dep .any ops i m)
def okEff (ops : Array Oper) (done : List Nat) (i : Nat) : Bool :=
 match Region.ready .any ops (marks (Array.replicate ops.size false) done) with
 | [j] => Nat.beq i j
 | _ => false
def okEnd (ops : Array Oper) (done : List Nat) : Bool := (Region.ready .any ops (marks (Array.replicate ops.size false) done)).isEmpty
def Still (w : World) (N : Nat) (ds : List Deferred) (d : Nat) (v : Value) (T : List (Nat × Value)) : Exit → Act → World → Prop
 | .normal, a', w' => w' = w ∧ Fr N ds ((d, v) :: T) a'
 | _, _, _ => False
theorem any_beq {l : List Nat} {i : Nat} (h : l.any (Nat.beq i) = true) : i ∈ l := by
 obtain ⟨j, hj, hb⟩ := List.any_eq_true.1 h
 rw [Nat.eq_of_beq_eq_true hb]; exact hj
theorem beq_any {l : List Nat} {i : Nat} (h : i ∈ l) : l.any (Nat.beq i) = true := List.any_eq_true.2 ⟨i, h, Nat.beq_refl i⟩
theorem d_pureG (hF : Fd F) (h : Fr N ds T a) (i : Nat) {fuel : Nat} {done : List Nat} {d : Nat} {op : Op} {ty : TypeId} {ps : String} {af : Array Edge} {g : Option (Nat × Bool)}
 (ho : nth ops.toList i = some ⟨some d, op, ty, ps, af, g⟩) (hp : pureOp op = true) (hok : okPure ops M done i = true) (hd : d < N) (hQ : NPd Q d) (hS : ph M (marks (Array.replicate ops.size false) done) = false → S w) {v : Value}
 (walk : ∀ w', (ph M (marks (Array.replicate ops.size false) done) = false → S w') → wpListIn F n P ops (Still w' N ds d v T) [⟨some d, op, ty, ps, af, g⟩] a w')
 (K : ∀ a', Fr N ds ((d, v) :: T) a' → Dr F n P ops Q S M fuel (i :: done) a' w) : Dr F n P ops Q S M (fuel + 1) done a w := by
 rw [nth_eq, Array.getElem?_toList] at ho
 simp only [okPure, Bool.and_eq_true] at hok
 obtain ⟨⟨⟨⟨h1, h3⟩, h4⟩, h5⟩, h6⟩ := hok
 have hnd := fun {j : Nat} {o : Oper} (ho : ops[j]? = some o) => noDefer_spec h1 ho
 have key : YieldsS P ops (fun w => ph M (marks (Array.replicate ops.size false) done) = false → S w) ⟨some d, op, ty, ps, af, g⟩ v a := by
  have uniq : ∀ u, Fr N ds ((d, v) :: T) (a.put (some d) u) → u = v := fun u hu => by
   have := hu.here d v (by rw [get_cons, if_pos rfl])
   simp only [Act.put] at this
   rw [Array.getElem?_setIfInBounds, if_pos rfl, if_pos (by rw [h.size]; exact hd)] at this
   exact Option.some.inj this
  cases hw : Region.wanted ⟨some d, op, ty, ps, af, g⟩ (yielded ops a.tmps)
  · refine .inr ⟨hw, ?_⟩
    have := walk w hS
    rw [wpListIn, if_neg (by rw [hw]; simp)] at this
    exact (uniq _ this.2.2).symm
  · refine .inl ⟨hw, fun w' hw' => ?_⟩
    have := walk w' hw'
    rw [wpListIn, if_pos hw] at this
    have := this.2
    rw [Oper.semAt_plain F _ _ (hnd ho).1] at this
    rcases vals_of_pureOp (o := ⟨some d, op, ty, ps, af, g⟩) hp a.eval P w' with ⟨u, w'', e⟩ | ⟨x, w'', e⟩
    · rw [e] at this ⊢
      obtain ⟨e1, e2⟩ := this
      subst e1
      rw [uniq u e2]
    · rw [e] at this
      cases x <;> exact this.elim
 refine ⟨wpAnyS_first hF (fun j o c ho => (hnd ho).1 c) ho (fun j o cs b ho => (hnd ho).2 cs b) (fun c a w hc => hQ _ _ _ _ hc) (fun hm => by rw [beq_any hm] at h5; cases h5) (fun m hm => List.all_eq_true.1 h6 m hm) fuel _ a w (Region.free_spec ho h3) (any_beq h4) key hS ?_⟩
 exact (K _ (h.put hd v)).go
theorem dP0 (hF : Fd F) (h : Fr N ds T a) (i : Nat) {fuel : Nat} {done : List Nat} {d : Nat} {op : Op} {ty : TypeId} {ps : String} {af : Array Edge} {g : Option (Nat × Bool)}
 (ho : nth ops.toList i = some ⟨some d, op, ty, ps, af, g⟩) (hp : pureOp op = true) (hok : okPure ops M done i = true) (hd : d < N) (hQ : NPd Q d) (hph : ph M (marks (Array.replicate ops.size false) done) = false) (hS : S w) {v : Value}
 (walk : ∀ w', S w' → wpListIn F n P ops (Still w' N ds d v T) [⟨some d, op, ty, ps, af, g⟩] a w')
 (K : ∀ a', Fr N ds ((d, v) :: T) a' → Dr F n P ops Q S M fuel (i :: done) a' w) : Dr F n P ops Q S M (fuel + 1) done a w :=
 d_pureG hF h i ho hp hok hd hQ (fun _ => hS) (fun w' hs => walk w' (hs hph)) K
def okPure0 (ops : Array Oper) (M done : List Nat) (i : Nat) : Bool :=
 noDefer ops && Region.free .any ops (marks (Array.replicate ops.size false) done) i && (Region.ready .any ops (marks (Array.replicate ops.size false) done)).any (Nat.beq i) && !M.any (Nat.beq i)
theorem dQ0 (hF : Fd F) (h : Fr N ds T a) (i : Nat) {fuel : Nat} {done : List Nat} {d : Nat} {op : Op} {ty : TypeId} {ps : String} {af : Array Edge} {g : Option (Nat × Bool)}
 (ho : nth ops.toList i = some ⟨some d, op, ty, ps, af, g⟩) (hp : pureOp op = true) (hok : okPure0 ops M done i = true) (hd : d < N) (hQ : NPd Q d) (hS : ph M (marks (Array.replicate ops.size false) done) = false → S w) {v : Value}
 (walk : ∀ w', wpListIn F n P ops (Still w' N ds d v T) [⟨some d, op, ty, ps, af, g⟩] a w')
 (K : ∀ a', Fr N ds ((d, v) :: T) a' → Dr F n P ops Q S M fuel (i :: done) a' w) : Dr F n P ops Q S M (fuel + 1) done a w := by
 rw [nth_eq, Array.getElem?_toList] at ho
 simp only [okPure0, Bool.and_eq_true] at hok
 obtain ⟨⟨⟨h1, h3⟩, h4⟩, h5⟩ := hok
 have hnd := fun {j : Nat} {o : Oper} (ho : ops[j]? = some o) => noDefer_spec h1 ho
 have key : YieldsS P ops (fun _ => True) ⟨some d, op, ty, ps, af, g⟩ v a := by
  have uniq : ∀ u, Fr N ds ((d, v) :: T) (a.put (some d) u) → u = v := fun u hu => by
   have := hu.here d v (by rw [get_cons, if_pos rfl])
   simp only [Act.put] at this
   rw [Array.getElem?_setIfInBounds, if_pos rfl, if_pos (by rw [h.size]; exact hd)] at this
   exact Option.some.inj this
  cases hw : Region.wanted ⟨some d, op, ty, ps, af, g⟩ (yielded ops a.tmps)
  · refine .inr ⟨hw, ?_⟩
    have := walk w
    rw [wpListIn, if_neg (by rw [hw]; simp)] at this
    exact (uniq _ this.2.2).symm
  · refine .inl ⟨hw, fun w' hw' => ?_⟩
    have := walk w'
    rw [wpListIn, if_pos hw] at this
    have := this.2
    rw [Oper.semAt_plain F _ _ (hnd ho).1] at this
    rcases vals_of_pureOp (o := ⟨some d, op, ty, ps, af, g⟩) hp a.eval P w' with ⟨u, w'', e⟩ | ⟨x, w'', e⟩
    · rw [e] at this ⊢
      obtain ⟨e1, e2⟩ := this
      subst e1
      rw [uniq u e2]
    · rw [e] at this
      cases x <;> exact this.elim
 refine ⟨wpAnyS_first0 hF (fun j o c ho => (hnd ho).1 c) ho (fun j o cs b ho => (hnd ho).2 cs b) (fun c a w hc => hQ _ _ _ _ hc) (fun hm => by rw [beq_any hm] at h5; cases h5) fuel _ a w (Region.free_spec ho h3) (any_beq h4) key hS ?_⟩
 exact (K _ (h.put hd v)).go
/-- what comes up alone -/
def Eff (F : Fence) (n : Nat) (P : Program) (ops : Array Oper) (Q : Exit → Act → World → Prop) (S : World → Prop) (M : List Nat) (fuel : Nat) (done : List Nat) (i : Nat) : Exit → Act → World → Prop
 | .normal, a', w' => (ph M (marks (Array.replicate ops.size false) (i :: done)) = false → S w') ∧ Dr F n P ops Q S M fuel (i :: done) a' w'
 | e, a', w' => Q e a' w'
theorem dE0 (i : Nat) {fuel : Nat} {done : List Nat} {o : Oper} (ho : nth ops.toList i = some o) (hok : okEff ops done i = true)
 (walk : wpListIn F n P ops (Eff F n P ops Q S M fuel done i) [o] a w) : Dr F n P ops Q S M (fuel + 1) done a w := by
 rw [nth_eq, Array.getElem?_toList] at ho
 unfold okEff at hok
 split at hok
 · rename_i j hr
   have := Nat.eq_of_beq_eq_true hok
   subst this
   refine ⟨?_⟩
   refine ⟨fun h0 => (by rw [hr] at h0; cases h0), fun k hk => ?_⟩
   rw [hr] at hk
   have hk : k = i := by simpa using hk
   subst hk
   unfold Go.wpOpIn
   simp only [ho]
   rw [wpListIn] at walk
   split
   · rename_i hw
     rw [if_pos hw] at walk
     unfold Oper.wpIn at *
     refine ⟨walk.1, ?_⟩
     have := walk.2
     generalize (o.semAt F.round a.eval).run P w = r at *
     cases r with
     | ok x w' =>
      cases x <;> simp only [Oper.uponIn] at this ⊢
      case value u => exact ⟨this.1, this.2.go⟩
      case skip => exact ⟨this.1, this.2.go⟩
      case defer d => exact ⟨this.1, this.2.go⟩
      case enter f args =>
       refine ⟨this.1, CallsIn.mono this.2 fun e w'' he => ?_⟩
       cases e with
       | returned u => exact ⟨he.1, he.2.go⟩
       | panicked c => exact he
       | outgrown => exact he
      case row row args => exact ⟨this.1, RowsIn.mono this.2 (fun _ _ he => ⟨he.1, he.2.go⟩)⟩
      case round l f tmps assign body =>
       refine ⟨this.1, RoundIn.mono this.2 fun e w'' he => ?_⟩
       cases e with
       | returned u => exact ⟨he.1, he.2.go⟩
       | panicked c => exact he
       | outgrown => exact he
     | halt x w' => cases x <;> simp only [Oper.uponIn] at this ⊢ <;> exact this
   · rename_i hw
     rw [if_neg hw] at walk
     exact ⟨walk.1, walk.2.1, walk.2.2.go⟩
 · cases hok
theorem dN0 {fuel : Nat} {done : List Nat} {i : Nat} (hS : S w) (K : Dr F n P ops Q S M fuel (i :: done) a w) : wpListIn F n P ops (Eff F n P ops Q S M fuel done i) [] a w := ⟨fun _ => hS, K⟩
theorem dNm0 {fuel : Nat} {done : List Nat} {i : Nat} (hph : ph M (marks (Array.replicate ops.size false) (i :: done)) = true) (K : Dr F n P ops Q S M fuel (i :: done) a w) : wpListIn F n P ops (Eff F n P ops Q S M fuel done i) [] a w := ⟨fun h => (by rw [hph] at h; cases h), K⟩
theorem d_end {done : List Nat} {fuel : Nat} (hok : okEnd ops done = true) (K : Q .normal a w) : Dr F n P ops Q S M fuel done a w := by
 unfold okEnd at hok
 have hr := List.isEmpty_iff.1 hok
 cases fuel with
 | zero => exact ⟨hr, K⟩
 | succ fuel => exact ⟨fun _ => K, fun i hi => by rw [hr] at hi; cases hi⟩
theorem d_region {id : Nat} {l : List Oper} (M : List Nat) (S : World → Prop) (hm : P.follows .mixedOrders = true) (H : St n0 w0 L w)
 (K : ∀ w', St n0 w0 L w' → Dr F n P l.toArray (NoP Q) S M l.toArray.size [] a w') : (Code.region id l.toArray true).wpIn F n P Q a w := by
 refine Code.wpIn_mono NoP.imp ?_
 exact wpIn_region_any hm (wpAnyIn_of_S _ _ _ _ (K _ H.drew).go)
/-- the same where a panic may come out of it -/
theorem d_regionP {id : Nat} {l : List Oper} (M : List Nat) (L' : List (Nat × Obj)) (m : Nat) (hm : P.follows .mixedOrders = true) (H : St n0 w0 L w) (_ : L'.Sublist L) (hnp : ∀ d, m ≤ d → NPd Q d)
 (K : (∀ d, m ≤ d → NPd Q d) → ∀ w', St n0 w0 L w' → Dr F n P l.toArray Q (St n0 w0 L') M l.toArray.size [] a w') : (Code.region id l.toArray true).wpIn F n P Q a w :=
 wpIn_region_any hm (wpAnyIn_of_S _ _ _ _ (K hnp _ H.drew).go)
theorem npd_then {m : Nat} {K : Act → World → Prop} (h : ∀ d, m ≤ d → NPd Q d) : ∀ d, m ≤ d → NPd (Exit.then K Q) d := fun d hd c a v w hq => h d hd c a v w hq
theorem npd_block {m id : Nat} (h : ∀ d, m ≤ d → NPd Q d) : ∀ d, m ≤ d → NPd (Exit.inBlock id Q) d := fun d hd c a v w hq => h d hd c a v w hq
theorem npd_body {m : Nat} {fn : Func} {R : Ending → World → Prop} : ∀ d, m ≤ d → NPd (bodyPost P fn R) d := fun _ _ _ _ _ _ hq => hq
theorem d_endThenP {c : Code} {done : List Nat} {fuel : Nat} (hok : okEnd ops done = true) (K : c.wpIn F n P Q a w) : Dr F n P ops (Exit.then (c.wpIn F n P Q) Q) S M fuel done a w := d_end hok K
theorem d_endQP {done : List Nat} {fuel : Nat} (hok : okEnd ops done = true) (K : Q .normal a w) : Dr F n P ops Q S M fuel done a w := d_end hok K
theorem d_regionL {id : Nat} {l : List Oper} (M : List Nat) (hm : P.follows .mixedOrders = true) (H : St n0 w0 L w)
 (K : ∀ w', St n0 w0 L w' → Dr F n P l.toArray (NoP Q) (St n0 w0 L) M l.toArray.size [] a w') : (Code.region id l.toArray true).wpIn F n P Q a w := d_region M _ hm H K
theorem d_regionS {id : Nat} {l : List Oper} (M : List Nat) (L' : List (Nat × Obj)) (hm : P.follows .mixedOrders = true) (H : St n0 w0 L w) (_ : L'.Sublist L)
 (K : ∀ w', St n0 w0 L w' → Dr F n P l.toArray (NoP Q) (St n0 w0 L') M l.toArray.size [] a w') : (Code.region id l.toArray true).wpIn F n P Q a w := d_region M _ hm H K
theorem d_endThen {c : Code} {done : List Nat} {fuel : Nat} (hok : okEnd ops done = true) (K : c.wpIn F n P Q a w) : Dr F n P ops (NoP (Exit.then (c.wpIn F n P Q) Q)) S M fuel done a w := d_end hok K
theorem d_endQ {done : List Nat} {fuel : Nat} (hok : okEnd ops done = true) (K : Q .normal a w) : Dr F n P ops (NoP Q) S M fuel done a w := d_end hok K
theorem j_callV {rest : List Oper} {ty : TypeId} {ps : String} {af : Array Edge} {g : Option (Nat × Bool)} {d : Nat} (hF : Fd F) (h : Fr N ds T a) (hg : guardOf T ops g = some true) {x : Operand} {f : FuncId} {cap : List Value} (hf : ev T x = some (.func (.func f) #[] cap.toArray)) [he : Ent P f] {xs : List Operand} {vs l : List Value}
 {S : Value → World → Prop} (hC : Rets P f l w S) (hx : evs T xs = some vs) (hl : vs ++ cap = l) {ats : Array TypeId} (hd : d < N) (K : ∀ v w', S v w' → ∀ a', Fr N ds ((d, v) :: T) a' → wpListIn F n P ops Q rest a' w') :
 wpListIn F n P ops Q (⟨some d, .call { callee := .value x, args := xs.toArray, argTypes := ats }, ty, ps, af, g⟩ :: rest) a w := by
 subst hl
 exact i_callV hF h hg hf hC hx hd K
theorem j_mapNew {rest : List Oper} {ty : TypeId} {ps : String} {af : Array Edge} {g : Option (Nat × Bool)} {op : Op} {α : Type} [DecidableEq α] {enc : α → Value} {M : Ents α} {c : Nat} {K : TypeId}
 (hF : Fd F) (h : Fr N ds T a) (H : St n0 w0 L w) (hg : guardOf T ops g = some true) {t e : TypeId} [ht : MapTy P t K e] [hk : KeyEnc P K enc] {x y z : Operand} {b : Nat} {k : α} {v : Value}
 (hx : ev T x = some (.map (some b))) (hy : ev T y = some (enc k)) (hz : ev T z = some v) (hu : Upd b (mapObj enc M c) (mapObj enc (M ++ [(k, v, c)]) (c + 1)) L L') (hnone : mget M k = none) (hop : op = .mapUpdate t x y z ∨ op = .insert t x y z)
 (Kt : ∀ w', St n0 w0 L' w' → wpListIn F n P ops Q rest a w') : wpListIn F n P ops Q (⟨none, op, ty, ps, af, g⟩ :: rest) a w :=
 i_mapNew hF h H hg hx hy hz hnone hu hop Kt
theorem j_build {rest : List Oper} {ty : TypeId} {ps : String} {af : Array Edge} {g : Option (Nat × Bool)} {d : Nat} (out : List Value) (hF : Fd F) (h : Fr N ds T a) (hg : guardOf T ops g = some true) {t : TypeId} {xs : List (Nat × Operand)} {vs : List (Nat × Value)}
 (hx : evp T xs = some vs) (hf : P.built t vs = some out.toArray) (hd : d < N) (K : ∀ a', Fr N ds ((d, .agg out.toArray) :: T) a' → wpListIn F n P ops Q rest a' w) :
 wpListIn F n P ops Q (⟨some d, .build t xs.toArray, ty, ps, af, g⟩ :: rest) a w :=
 step hF h hg (by simp) (v := .agg out.toArray) (w' := w) (by
  have e := evp_eval h hx
  have e2 := run_build (P := P) w t vs.toArray out.toArray (by simpa using hf)
  simp only [execOp, List.map_toArray, e, Sem.run_bind, e2, Result.andThen_ok, Sem.run_pure]) (K _ (h.put hd _))
theorem Upd.uniq {b : Nat} {o o' : Obj} : ∀ {L L1 L2 : List (Nat × Obj)}, Upd b o o' L L1 → Upd b o o' L L2 → (L.map (·.1)).Nodup → L1 = L2
 | _, _, _, .here, .here, _ => rfl
 | _, _, _, .here, .there h, hn => by
  rw [List.map_cons, List.nodup_cons] at hn
  exact absurd (List.mem_map.2 ⟨_, h.mem.1, rfl⟩) hn.1
 | _, _, _, .there h, .here, hn => by
  rw [List.map_cons, List.nodup_cons] at hn
  exact absurd (List.mem_map.2 ⟨_, h.mem.1, rfl⟩) hn.1
 | _, _, _, .there h1, .there h2, hn => by
  rw [List.map_cons, List.nodup_cons] at hn
  rw [h1.uniq h2 hn.2]
theorem j_next {rest : List Oper} {ty : TypeId} {ps : String} {af : Array Edge} {g : Option (Nat × Bool)} {d : Nat} {α : Type} {enc : α → Value} {M : Ents α} {c : Nat} (Lf : Nat → List (Nat × Obj))
 (hF : Fd F) (h : Fr N ds T a) (H : St n0 w0 L w) (hg : guardOf T ops g = some true) {x : Operand} {b r : Nat} (hx : ev T x = some (ptr r 0)) (hm : w.heap[b]? = some (mapObj enc M c)) (hM : MapOk M c) {seen : List Nat}
 (hu : ∀ i, Upd r (.mapIter (some b) c seen.toArray c) (.mapIter (some b) c (seen ++ [i]).toArray c) L (Lf i)) (hbr : b ≠ r) (hd : d < N)
 (K0 : (∀ x ∈ M, x.2.2 ∈ seen) → ∀ a' w', Fr N ds ((d, .tuple #[.bool false]) :: T) a' → St n0 w0 L w' → wpListIn F n P ops Q rest a' w')
 (K1 : ∀ x ∈ M, x.2.2 ∉ seen → ∀ a' w', Fr N ds ((d, .tuple #[.bool true, enc x.1, x.2.1]) :: T) a' → St n0 w0 (Lf x.2.2) w' → wpListIn F n P ops Q rest a' w') :
 wpListIn F n P ops Q (⟨some d, .next x false, ty, ps, af, g⟩ :: rest) a w :=
 i_next hF h H hg hx hm hM (hu 0).mem.1 hbr hd (fun h0 a' w' hf hs _ => K0 h0 a' w' hf hs) (fun x hxm hns a' w' L' hf hup hs _ => K1 x hxm hns a' w' hf (by rw [← hup.uniq (hu x.2.2) H.nodup]; exact hs))
theorem wrapTo (k : IntKind) (z : Int) (hlo : k.min ≤ z) (hhi : z ≤ k.max) : k.wrap z = z := wrap_id k z hlo hhi
end
end Go.Proofs.YtjlmpghcjgbfjaaGreatDoor.Ex
