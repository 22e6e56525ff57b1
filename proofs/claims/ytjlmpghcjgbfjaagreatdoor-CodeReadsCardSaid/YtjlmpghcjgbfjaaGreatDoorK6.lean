/-
  A part of the proofs of this seat: the executor (one law an operation), the plain laws of code and its text, and the walks of the functions that are reached: Wk Lw5 Lw4 ExX Lw6 Lw3.
-/
import Derived.Test.YtjlmpghcjgbfjaaGreatDoorK5
import Derived.Test.YtjlmpghcjgbfjaaGreatDoorK2
import Derived.Test.YtjlmpghcjgbfjaaGreatDoorK4
namespace Go.Proofs.YtjlmpghcjgbfjaaGreatDoor.Cw
open Go Go.RowKit Go.Proofs Ex Cd
set_option maxRecDepth 100000
section
variable {F : Fence} {n : Nat} {P : Program} {ops : Array Oper} {Q : Exit → Act → World → Prop} {a : Act} {w : World} {rest : List Oper}
variable {N : Nat} {ds : List Deferred} {T : List (Nat × Value)}
variable {ty : TypeId} {ps : String} {af : Array Edge} {g : Option (Nat × Bool)} {d : Nat}
theorem i_eqRun (hF : Ex.Fd F) (h : Fr N ds T a) (hg : guardOf T ops g = some true) {o : BinOp} {t t' : TypeId} {x y : Operand} {u v : Value} {b : Bool} (hx : ev T x = some u) (hy : ev T y = some v) (hq : (eqGuard o t x y u v).run P w = .ok () w) (hr : (binOp o t u v).run P w = .ok (.bool b) w) (hd : d < N)
 (K : ∀ a', Fr N ds ((d, .bool b) :: T) a' → wpListIn F n P ops Q rest a' w) : wpListIn F n P ops Q (⟨some d, .binOp o t x y t', ty, ps, af, g⟩ :: rest) a w :=
 Ex.step hF h hg (by simp) (v := .bool b) (w' := w) (by simp [execOp, h.eval hx, h.eval hy, hq, hr]) (K _ (h.put hd _))
end
def iADD : Info := ([65, 68, 68], 2, 1, 3, true, 0)
def iSWAP2 : Info := ([83, 87, 65, 80, 50], 3, 3, 3, true, 0)
theorem info1 : info (1 : UInt8).toNat = some iADD := by decide +kernel
theorem info12 : info (12 : UInt8).toNat = none := by decide +kernel
theorem info145 : info (145 : UInt8).toNat = some iSWAP2 := by decide +kernel
theorem namedP : named [80, 85, 83, 72, 50] = some 97 := by decide +kernel
theorem marks5 : marks c5 = [2] := by decide +kernel
theorem text5 : Cd.text c5 = [80, 85, 83, 72, 49, 32, 48, 120, 48, 53, 32, 74, 85, 77, 80, 68, 69, 83, 84, 32, 80, 85, 83, 72, 50, 32, 48, 120, 53, 98, 48, 48] := by decide +kernel
def sA : List UInt8 := [80, 85, 83, 72, 49, 32, 48, 120, 48, 53, 32, 74, 85, 77, 80, 68, 69, 83, 84]
def sB : List UInt8 := [80, 85, 83, 72, 49, 32, 48, 53]
theorem parseA : readNo (parse sA) = 0 ∧ readL (parse sA) = [96, 5, 91] := by decide +kernel
theorem parseB : readNo (parse sB) = 200 ∧ readL (parse sB) = [] := by decide +kernel
theorem eq42 (x : Info) (i j : Nat) (w : World) : (eqGuard .eql 42 (.tmp i) (.tmp j) (valI x) (valI x)).run Tryz.prog w = .ok () w := by kernel_rfl
theorem eq48 (i j : Nat) (w : World) : (eqGuard .eql 48 (.tmp i) (.tmp j) (.agg (word1 23296).toArray) (.agg (word1 23296).toArray)).run Tryz.prog w = .ok () w := by kernel_rfl
theorem eqA (w : World) : (binOp .eql 42 (valI iADD) (valI iADD)).run Tryz.prog w = .ok (.bool true) w := by kernel_rfl
theorem eqS (w : World) : (binOp .eql 42 (valI iSWAP2) (valI iSWAP2)).run Tryz.prog w = .ok (.bool true) w := by kernel_rfl
theorem eqW (w : World) : (binOp .eql 48 (.agg (word1 23296).toArray) (.agg (word1 23296).toArray)).run Tryz.prog w = .ok (.bool true) w := by kernel_rfl
theorem parse_retR (s : List UInt8) (hs : s.length ≤ 70000) (w0 : World) : Rets Tryz.prog 11 [str s] w0 fun v w' => ∃ u, v = .tuple #[u, int (readNo (parse s))] ∧ GivesRow 5 byt (readL (parse s)) w0 u w' := parse_ret s hs w0
theorem works_ret (w0 : World) : Rets Tryz.prog 7 [] w0 fun v w' => v = .bool true ∧ Below w0.heap.size w0 w' := by
 have e97 : namedV [80, 85, 83, 72, 50] = .tuple #[byt 97, .bool true] := by unfold namedV; rw [namedP]; rfl
 have e97' : (97 : UInt8).toNat = 97 := rfl
 refine enter Tryz.func7 rfl (Nat.le_of_ble_eq_true rfl) ?_
 intro a h; rw [Tryz.ntmps7] at h
 have hF := Fd.wide; have H := St.begin w0
 repeat refine cS0 ?_
 refine cR0 ?_
 refine sA0 hF h rfl rfl (by decide) ?_
 clear h; intro a h
 first | refine cEt0 ?_ | refine cE0 ?_
 repeat refine cS0 ?_
 refine cR0 ?_
 refine i_call hF h rfl (info_ret 1 _) rfl (by decide) ?_
 clear h; rintro _ w ⟨rfl, hb⟩ a h; replace H := H.call hb; clear hb
 refine sM0 hF h rfl rfl (by decide) ?_
 clear h; intro a h
 refine iX0 hF h rfl rfl rfl (by decide) ?_
 clear h; intro a h
 refine iX0 hF h rfl rfl rfl (by decide) ?_
 clear h; intro a h
 refine i_alloc hF h H rfl (by decide) ?_
 clear h H; intro a w b1 _ h H
 refine j_storeA hF h H rfl rfl rfl rfl rfl (by repeat (first | exact Upd.here | apply Upd.there | apply Upd.app)) (by repeat (first | exact PutAt.nil | apply PutAt.put | apply PutAt.skip)) ?_
 clear H; intro w H
 refine sA0 hF h rfl rfl (by decide) ?_
 clear h; intro a h
 first | refine cEt0 ?_ | refine cE0 ?_
 simp only [info1, Option.getD_some, Option.isSome_some] at h H
 repeat refine cS0 ?_
 refine cR0 ?_
 refine i_call hF h rfl (info_ret 12 _) rfl (by decide) ?_
 clear h; rintro _ w ⟨rfl, hb⟩ a h; replace H := H.call hb; clear hb
 refine sM0 hF h rfl rfl (by decide) ?_
 clear h; intro a h
 refine iX0 hF h rfl rfl rfl (by decide) ?_
 clear h; intro a h
 refine iX0 hF h rfl rfl rfl (by decide) ?_
 clear h; intro a h
 refine i_alloc hF h H rfl (by decide) ?_
 clear h H; intro a w b3 _ h H
 refine j_storeA hF h H rfl rfl rfl rfl rfl (by repeat (first | exact Upd.here | apply Upd.there | apply Upd.app)) (by repeat (first | exact PutAt.nil | apply PutAt.put | apply PutAt.skip)) ?_
 clear H; intro w H
 refine sA0 hF h rfl rfl (by decide) ?_
 clear h; intro a h
 first | refine cEt0 ?_ | refine cE0 ?_
 simp only [info12, Option.getD_none, Option.isSome_none] at h H
 repeat refine cS0 ?_
 refine cR0 ?_
 refine i_call hF h rfl (named_ret [80, 85, 83, 72, 50] _) rfl (by decide) ?_
 clear h; rintro _ w ⟨rfl, hb⟩ a h; rw [e97] at h; replace H := H.call hb; clear hb
 refine sM0 hF h rfl rfl (by decide) ?_
 clear h; intro a h
 refine iX0 hF h rfl rfl rfl (by decide) ?_
 clear h; intro a h
 refine iX0 hF h rfl rfl rfl (by decide) ?_
 clear h; intro a h
 refine sA0 hF h rfl rfl (by decide) ?_
 clear h; intro a h
 refine sA0 hF h rfl rfl (by decide) ?_
 clear h; intro a h
 first | refine cEt0 ?_ | refine cE0 ?_
 repeat refine cS0 ?_
 refine cR0 ?_
 refine i_call hF h rfl (info_ret 145 _) rfl (by decide) ?_
 clear h; rintro _ w ⟨rfl, hb⟩ a h; replace H := H.call hb; clear hb
 refine sM0 hF h rfl rfl (by decide) ?_
 clear h; intro a h
 refine iX0 hF h rfl rfl rfl (by decide) ?_
 clear h; intro a h
 refine iX0 hF h rfl rfl rfl (by decide) ?_
 clear h; intro a h
 refine i_alloc hF h H rfl (by decide) ?_
 clear h H; intro a w b7 _ h H
 refine j_storeA hF h H rfl rfl rfl rfl rfl (by repeat (first | exact Upd.here | apply Upd.there | apply Upd.app)) (by repeat (first | exact PutAt.nil | apply PutAt.put | apply PutAt.skip)) ?_
 clear H; intro w H
 refine sA0 hF h rfl rfl (by decide) ?_
 clear h; intro a h
 first | refine cEt0 ?_ | refine cE0 ?_
 simp only [info145, Option.getD_some, Option.isSome_some] at h H
 repeat refine cS0 ?_
 refine cR0 ?_
 refine i_buildSlice hF h H rfl rfl (by decide) (by decide) rfl (by decide) ?_
 clear h H; intro a w b33 _ h H
 refine sA0 hF h rfl rfl (by decide) ?_
 clear h; intro a h
 first | refine cEt0 ?_ | refine cE0 ?_
 replace H : St w0.heap.size w0 ([] ++ [(b33, .cells (c5.map byt).toArray 5 (0, 0)), (b7, .cells (cellsI iSWAP2).toArray 42 (0, 0)), (b3, .cells (cellsI noneI).toArray 42 (0, 0)), (b1, .cells (cellsI iADD).toArray 42 (0, 0))]) w := H
 have h5 : ∀ {E : List (Nat × Obj)} {w' : World}, St w0.heap.size w0 (E ++ [(b33, .cells (c5.map byt).toArray 5 (0, 0)), (b7, .cells (cellsI iSWAP2).toArray 42 (0, 0)), (b3, .cells (cellsI noneI).toArray 42 (0, 0)), (b1, .cells (cellsI iADD).toArray 42 (0, 0))]) w' → BS w' (sl b33 5 5) c5 := fun H' => ES_own (cs := c5) (H'.mem (by repeat (first | exact mh1 | apply mt1 | apply ma1)))
 repeat refine cS0 ?_
 refine cR0 ?_
 refine sM0 hF h rfl rfl (by decide) ?_
 clear h; intro a h
 refine i_call hF h rfl (marks_ret _ c5 (by decide) _ (h5 (E := []) H)) rfl (by decide) ?_
 clear h; rintro v10 w hg a h; obtain ⟨R10, hr10, H2⟩ := H.row hg; replace H := H2; clear H2 hg
 refine sA0 hF h rfl rfl (by decide) ?_
 clear h; intro a h
 first | refine cEt0 ?_ | refine cE0 ?_
 rw [marks5] at hr10
 obtain ⟨b10, cap10, junk, rfl, hcap, rfl⟩ : ∃ b10 cap10 junk, v10 = sl b10 1 cap10 ∧ 1 ≤ cap10 ∧ R10 = [(b10, .cells ([int 2] ++ junk).toArray 3 (0, 0))] := by
  rcases hr10.2 with ⟨_, h0, _⟩ | ⟨b, cap, junk, e1, e2, _, _, e3⟩
  · cases h0
  · exact ⟨b, cap, junk, e1, e2, e3⟩
 repeat refine cS0 ?_
 refine cR0 ?_
 refine sM0 hF h rfl rfl (by decide) ?_
 clear h; intro a h
 refine i_call hF h rfl (push_ret _ _ (h5 (E := [_]) H)) rfl (by decide) ?_
 clear h; rintro _ w ⟨rfl, hb⟩ a h; replace H := H.call hb; clear hb
 refine sM0 hF h rfl rfl (by decide) ?_
 clear h; intro a h
 refine iX0 hF h rfl rfl rfl (by decide) ?_
 clear h; intro a h
 refine iX0 hF h rfl rfl rfl (by decide) ?_
 clear h; intro a h
 refine i_alloc hF h H rfl (by decide) ?_
 clear h H; intro a w b11 _ h H
 refine j_storeA hF h H rfl rfl rfl rfl rfl (by repeat (first | exact Upd.here | apply Upd.there | apply Upd.app)) (by repeat (first | exact PutAt.nil | apply PutAt.put | apply PutAt.skip)) ?_
 clear H; intro w H
 refine sA0 hF h rfl rfl (by decide) ?_
 clear h; intro a h
 first | refine cEt0 ?_ | refine cE0 ?_
 repeat refine cS0 ?_
 refine cR0 ?_
 refine i_call hF h rfl (parse_retR sA (by decide) _) rfl (by decide) ?_
 clear h; rintro _ w ⟨v13, rfl, hg⟩ a h; rw [parseA.1] at h; rw [parseA.2] at hg; obtain ⟨R13, hr13, H2⟩ := H.row hg; replace H := H2; clear H2 hg
 refine sM0 hF h rfl rfl (by decide) ?_
 clear h; intro a h
 refine iX0 hF h rfl rfl rfl (by decide) ?_
 clear h; intro a h
 refine iX0 hF h rfl rfl rfl (by decide) ?_
 clear h; intro a h
 refine sA0 hF h rfl rfl (by decide) ?_
 clear h; intro a h
 refine sA0 hF h rfl rfl (by decide) ?_
 clear h; intro a h
 first | refine cEt0 ?_ | refine cE0 ?_
 repeat refine cS0 ?_
 refine cR0 ?_
 refine i_call hF h rfl (parse_retR sB (by decide) _) rfl (by decide) ?_
 clear h; rintro _ w ⟨v15, rfl, hg⟩ a h; rw [parseB.1] at h; rw [parseB.2] at hg; obtain ⟨R15, hr15, H2⟩ := H.row hg; replace H := H2; clear H2 hg
 refine sM0 hF h rfl rfl (by decide) ?_
 clear h; intro a h
 refine iX0 hF h rfl rfl rfl (by decide) ?_
 clear h; intro a h
 refine iX0 hF h rfl rfl rfl (by decide) ?_
 clear h; intro a h
 refine sA0 hF h rfl rfl (by decide) ?_
 clear h; intro a h
 refine sA0 hF h rfl rfl (by decide) ?_
 clear h; intro a h
 first | refine cEt0 ?_ | refine cE0 ?_
 have hE13 : ∀ {L : List (Nat × Obj)} {w' : World}, St w0.heap.size w0 (R15 ++ (R13 ++ L)) w' → BS w' v13 [96, 5, 91] := fun H' => (ES.row (l := [96, 5, 91]) hr13 (H'.sub (List.sublist_append_right R15 _))).1
 repeat refine cS0 ?_
 refine d_regionL [] (by kernel_rfl) H ?_
 clear H; intro w H
 apply dP0 hF h 0 rfl rfl (by kernel_rfl) (by decide) NoP.np (by kernel_rfl) (H.sub (by repeat (first | exact ln1 | exact ls1 | exact lr1 | apply lk1 | apply List.Sublist.cons | apply la1)))
 · intro w H
   refine j_loadA hF h H rfl rfl (by repeat (first | exact mh1 | apply mt1 | apply ma1)) (by repeat (first | exact Seg.nil | apply Seg.take | apply Seg.skip)) (by decide) ?_
   intro a h
   exact ⟨rfl, h⟩
 clear h; intro a h
 apply dQ0 hF h 1 rfl rfl (by kernel_rfl) (by decide) NoP.np (fun _ => H.sub (by repeat (first | exact ln1 | exact ls1 | exact lr1 | apply lk1 | apply List.Sublist.cons | apply la1)))
 · intro w
   refine i_build hF h rfl rfl rfl (by decide) ?_
   intro a h
   exact ⟨rfl, h⟩
 clear h; intro a h
 apply dQ0 hF h 2 rfl rfl (by kernel_rfl) (by decide) NoP.np (fun _ => H.sub (by repeat (first | exact ln1 | exact ls1 | exact lr1 | apply lk1 | apply List.Sublist.cons | apply la1)))
 · intro w
   refine i_eqRun hF h rfl rfl rfl (eq42 iADD _ _ _) (eqA _) (by decide) ?_
   intro a h
   exact ⟨rfl, h⟩
 clear h; intro a h
 apply dQ0 hF h 3 rfl rfl (by kernel_rfl) (by decide) NoP.np (fun _ => H.sub (by repeat (first | exact ln1 | exact ls1 | exact lr1 | apply lk1 | apply List.Sublist.cons | apply la1)))
 · intro w
   refine sM0 hF h rfl rfl (by decide) ?_
   intro a h
   exact ⟨rfl, h⟩
 clear h; intro a h
 apply dQ0 hF h 4 rfl rfl (by kernel_rfl) (by decide) NoP.np (fun _ => H.sub (by repeat (first | exact ln1 | exact ls1 | exact lr1 | apply lk1 | apply List.Sublist.cons | apply la1)))
 · intro w
   first | (refine sK0 hF h rfl (by decide) ?_; intro a h) | (refine sM0 hF h rfl rfl (by decide) ?_; intro a h)
   exact ⟨rfl, h⟩
 clear h; intro a h
 apply dQ0 hF h 5 rfl rfl (by kernel_rfl) (by decide) NoP.np (fun _ => H.sub (by repeat (first | exact ln1 | exact ls1 | exact lr1 | apply lk1 | apply List.Sublist.cons | apply la1)))
 · intro w
   refine s_pick hF h rfl rfl rfl (by decide) ?_
   intro a h
   exact ⟨rfl, h⟩
 clear h; intro a h
 apply dQ0 hF h 6 rfl rfl (by kernel_rfl) (by decide) NoP.np (fun _ => H.sub (by repeat (first | exact ln1 | exact ls1 | exact lr1 | apply lk1 | apply List.Sublist.cons | apply la1)))
 · intro w
   refine sM0 hF h rfl rfl (by decide) ?_
   intro a h
   exact ⟨rfl, h⟩
 clear h; intro a h
 apply dQ0 hF h 7 rfl rfl (by kernel_rfl) (by decide) NoP.np (fun _ => H.sub (by repeat (first | exact ln1 | exact ls1 | exact lr1 | apply lk1 | apply List.Sublist.cons | apply la1)))
 · intro w
   first | (refine sK0 hF h rfl (by decide) ?_; intro a h) | (refine sM0 hF h rfl rfl (by decide) ?_; intro a h)
   exact ⟨rfl, h⟩
 clear h; intro a h
 apply dQ0 hF h 8 rfl rfl (by kernel_rfl) (by decide) NoP.np (fun _ => H.sub (by repeat (first | exact ln1 | exact ls1 | exact lr1 | apply lk1 | apply List.Sublist.cons | apply la1)))
 · intro w
   first | (refine sK0 hF h rfl (by decide) ?_; intro a h) | (refine i_not hF h rfl rfl (by decide) ?_; intro a h; try simp only [Bool.not_false] at h)
   exact ⟨rfl, h⟩
 clear h; intro a h
 apply dQ0 hF h 9 rfl rfl (by kernel_rfl) (by decide) NoP.np (fun _ => H.sub (by repeat (first | exact ln1 | exact ls1 | exact lr1 | apply lk1 | apply List.Sublist.cons | apply la1)))
 · intro w
   refine s_pick hF h rfl rfl rfl (by decide) ?_
   intro a h
   exact ⟨rfl, h⟩
 clear h; intro a h
 apply dQ0 hF h 10 rfl rfl (by kernel_rfl) (by decide) NoP.np (fun _ => H.sub (by repeat (first | exact ln1 | exact ls1 | exact lr1 | apply lk1 | apply List.Sublist.cons | apply la1)))
 · intro w
   refine sM0 hF h rfl rfl (by decide) ?_
   intro a h
   exact ⟨rfl, h⟩
 clear h; intro a h
 apply dQ0 hF h 11 rfl rfl (by kernel_rfl) (by decide) NoP.np (fun _ => H.sub (by repeat (first | exact ln1 | exact ls1 | exact lr1 | apply lk1 | apply List.Sublist.cons | apply la1)))
 · intro w
   first | (refine sK0 hF h rfl (by decide) ?_; intro a h) | (refine sM0 hF h rfl rfl (by decide) ?_; intro a h)
   exact ⟨rfl, h⟩
 clear h; intro a h
 apply dQ0 hF h 12 rfl rfl (by kernel_rfl) (by decide) NoP.np (fun _ => H.sub (by repeat (first | exact ln1 | exact ls1 | exact lr1 | apply lk1 | apply List.Sublist.cons | apply la1)))
 · intro w
   first | (refine sK0 hF h rfl (by decide) ?_; intro a h) | ((first | (refine iC0 hF h rfl rfl rfl (i_eql_t (by omega)) (by decide) ?_) | (refine iC0 hF h rfl rfl rfl (i_eql_f (by omega)) (by decide) ?_)); intro a h)
   exact ⟨rfl, h⟩
 clear h; intro a h
 apply dQ0 hF h 13 rfl rfl (by kernel_rfl) (by decide) NoP.np (fun _ => H.sub (by repeat (first | exact ln1 | exact ls1 | exact lr1 | apply lk1 | apply List.Sublist.cons | apply la1)))
 · intro w
   refine s_pick hF h rfl rfl rfl (by decide) ?_
   intro a h
   exact ⟨rfl, h⟩
 clear h; intro a h
 apply dQ0 hF h 14 rfl rfl (by kernel_rfl) (by decide) NoP.np (fun _ => H.sub (by repeat (first | exact ln1 | exact ls1 | exact lr1 | apply lk1 | apply List.Sublist.cons | apply la1)))
 · intro w
   refine sM0 hF h rfl rfl (by decide) ?_
   intro a h
   exact ⟨rfl, h⟩
 clear h; intro a h
 apply dQ0 hF h 15 rfl rfl (by kernel_rfl) (by decide) NoP.np (fun _ => H.sub (by repeat (first | exact ln1 | exact ls1 | exact lr1 | apply lk1 | apply List.Sublist.cons | apply la1)))
 · intro w
   first | (refine sK0 hF h rfl (by decide) ?_; intro a h) | (refine sM0 hF h rfl rfl (by decide) ?_; intro a h)
   exact ⟨rfl, h⟩
 clear h; intro a h
 apply dQ0 hF h 16 rfl rfl (by kernel_rfl) (by decide) NoP.np (fun _ => H.sub (by repeat (first | exact ln1 | exact ls1 | exact lr1 | apply lk1 | apply List.Sublist.cons | apply la1)))
 · intro w
   refine s_pick hF h rfl rfl rfl (by decide) ?_
   intro a h
   exact ⟨rfl, h⟩
 clear h; intro a h
 apply dQ0 hF h 17 rfl rfl (by kernel_rfl) (by decide) NoP.np (fun _ => H.sub (by repeat (first | exact ln1 | exact ls1 | exact lr1 | apply lk1 | apply List.Sublist.cons | apply la1)))
 · intro w
   refine sM0 hF h rfl rfl (by decide) ?_
   intro a h
   exact ⟨rfl, h⟩
 clear h; intro a h
 apply dP0 hF h 18 rfl rfl (by kernel_rfl) (by decide) NoP.np (by kernel_rfl) (H.sub (by repeat (first | exact ln1 | exact ls1 | exact lr1 | apply lk1 | apply List.Sublist.cons | apply la1)))
 · intro w H
   first | (refine sK0 hF h rfl (by decide) ?_; intro a h) | (refine j_loadA hF h H rfl rfl (by repeat (first | exact mh1 | apply mt1 | apply ma1)) (by repeat (first | exact Seg.nil | apply Seg.take | apply Seg.skip)) (by decide) ?_; intro a h)
   exact ⟨rfl, h⟩
 clear h; intro a h
 apply dQ0 hF h 19 rfl rfl (by kernel_rfl) (by decide) NoP.np (fun _ => H.sub (by repeat (first | exact ln1 | exact ls1 | exact lr1 | apply lk1 | apply List.Sublist.cons | apply la1)))
 · intro w
   first | (refine sK0 hF h rfl (by decide) ?_; intro a h) | (refine i_build hF h rfl rfl rfl (by decide) ?_; intro a h)
   exact ⟨rfl, h⟩
 clear h; intro a h
 apply dQ0 hF h 20 rfl rfl (by kernel_rfl) (by decide) NoP.np (fun _ => H.sub (by repeat (first | exact ln1 | exact ls1 | exact lr1 | apply lk1 | apply List.Sublist.cons | apply la1)))
 · intro w
   first | (refine sK0 hF h rfl (by decide) ?_; intro a h) | (refine i_eqRun hF h rfl rfl rfl (eq42 iSWAP2 _ _ _) (eqS _) (by decide) ?_; intro a h)
   exact ⟨rfl, h⟩
 clear h; intro a h
 apply dQ0 hF h 21 rfl rfl (by kernel_rfl) (by decide) NoP.np (fun _ => H.sub (by repeat (first | exact ln1 | exact ls1 | exact lr1 | apply lk1 | apply List.Sublist.cons | apply la1)))
 · intro w
   refine s_pick hF h rfl rfl rfl (by decide) ?_
   intro a h
   exact ⟨rfl, h⟩
 clear h; intro a h
 apply dQ0 hF h 22 rfl rfl (by kernel_rfl) (by decide) NoP.np (fun _ => H.sub (by repeat (first | exact ln1 | exact ls1 | exact lr1 | apply lk1 | apply List.Sublist.cons | apply la1)))
 · intro w
   refine sM0 hF h rfl rfl (by decide) ?_
   intro a h
   exact ⟨rfl, h⟩
 clear h; intro a h
 apply dQ0 hF h 23 rfl rfl (by kernel_rfl) (by decide) NoP.np (fun _ => H.sub (by repeat (first | exact ln1 | exact ls1 | exact lr1 | apply lk1 | apply List.Sublist.cons | apply la1)))
 · intro w
   first | (refine sK0 hF h rfl (by decide) ?_; intro a h) | (refine sM0 hF h rfl rfl (by decide) ?_; intro a h)
   exact ⟨rfl, h⟩
 clear h; intro a h
 apply dQ0 hF h 24 rfl rfl (by kernel_rfl) (by decide) NoP.np (fun _ => H.sub (by repeat (first | exact ln1 | exact ls1 | exact lr1 | apply lk1 | apply List.Sublist.cons | apply la1)))
 · intro w
   refine s_pick hF h rfl rfl rfl (by decide) ?_
   intro a h
   exact ⟨rfl, h⟩
 clear h; intro a h
 apply dQ0 hF h 25 rfl rfl (by kernel_rfl) (by decide) NoP.np (fun _ => H.sub (by repeat (first | exact ln1 | exact ls1 | exact lr1 | apply lk1 | apply List.Sublist.cons | apply la1)))
 · intro w
   refine sM0 hF h rfl rfl (by decide) ?_
   intro a h
   exact ⟨rfl, h⟩
 clear h; intro a h
 apply dQ0 hF h 26 rfl rfl (by kernel_rfl) (by decide) NoP.np (fun _ => H.sub (by repeat (first | exact ln1 | exact ls1 | exact lr1 | apply lk1 | apply List.Sublist.cons | apply la1)))
 · intro w
   first | (refine sK0 hF h rfl (by decide) ?_; intro a h) | (refine sM0 hF h rfl rfl (by decide) ?_; intro a h)
   exact ⟨rfl, h⟩
 clear h; intro a h
 refine dE0 27 rfl (by kernel_rfl) ?_
 first | (refine sK0 hF h rfl (by decide) ?_; clear h; intro a h) | (refine i_call hF h rfl (text_ret _ c5 (by decide) _ (h5 (E := R15 ++ (R13 ++ [_, _])) (by rw [List.append_assoc, List.append_assoc]; exact H))) rfl (by decide) ?_; clear h; rintro _ w ⟨rfl, hb⟩ a h; rw [text5] at h; replace H := H.call hb; clear hb)
 refine dN0 (H.sub (by repeat (first | exact ln1 | exact ls1 | exact lr1 | apply lk1 | apply List.Sublist.cons | apply la1))) ?_
 apply dQ0 hF h 28 rfl rfl (by kernel_rfl) (by decide) NoP.np (fun _ => H.sub (by repeat (first | exact ln1 | exact ls1 | exact lr1 | apply lk1 | apply List.Sublist.cons | apply la1)))
 · intro w
   first | (refine sK0 hF h rfl (by decide) ?_; intro a h) | (refine i_eqS hF h rfl rfl rfl rfl (by decide) ?_; intro a h)
   exact ⟨rfl, h⟩
 clear h; intro a h
 apply dQ0 hF h 29 rfl rfl (by kernel_rfl) (by decide) NoP.np (fun _ => H.sub (by repeat (first | exact ln1 | exact ls1 | exact lr1 | apply lk1 | apply List.Sublist.cons | apply la1)))
 · intro w
   refine s_pick hF h rfl rfl rfl (by decide) ?_
   intro a h
   exact ⟨rfl, h⟩
 clear h; intro a h
 apply dQ0 hF h 30 rfl rfl (by kernel_rfl) (by decide) NoP.np (fun _ => H.sub (by repeat (first | exact ln1 | exact ls1 | exact lr1 | apply lk1 | apply List.Sublist.cons | apply la1)))
 · intro w
   refine sM0 hF h rfl rfl (by decide) ?_
   intro a h
   exact ⟨rfl, h⟩
 clear h; intro a h
 apply dQ0 hF h 31 rfl rfl (by kernel_rfl) (by decide) NoP.np (fun _ => H.sub (by repeat (first | exact ln1 | exact ls1 | exact lr1 | apply lk1 | apply List.Sublist.cons | apply la1)))
 · intro w
   first | (refine sK0 hF h rfl (by decide) ?_; intro a h) | (refine sM0 hF h rfl rfl (by decide) ?_; intro a h)
   exact ⟨rfl, h⟩
 clear h; intro a h
 apply dQ0 hF h 32 rfl rfl (by kernel_rfl) (by decide) NoP.np (fun _ => H.sub (by repeat (first | exact ln1 | exact ls1 | exact lr1 | apply lk1 | apply List.Sublist.cons | apply la1)))
 · intro w
   first | (refine sK0 hF h rfl (by decide) ?_; intro a h) | ((first | (refine i_len hF h rfl rfl (by decide) ?_) | (refine i_lenS hF h rfl rfl (by decide) ?_)); intro a h)
   exact ⟨rfl, h⟩
 clear h; intro a h
 apply dQ0 hF h 33 rfl rfl (by kernel_rfl) (by decide) NoP.np (fun _ => H.sub (by repeat (first | exact ln1 | exact ls1 | exact lr1 | apply lk1 | apply List.Sublist.cons | apply la1)))
 · intro w
   first | (refine sK0 hF h rfl (by decide) ?_; intro a h) | ((first | (refine iC0 hF h rfl rfl rfl (i_eql_t (by omega)) (by decide) ?_) | (refine iC0 hF h rfl rfl rfl (i_eql_f (by omega)) (by decide) ?_)); intro a h)
   exact ⟨rfl, h⟩
 clear h; intro a h
 apply dQ0 hF h 34 rfl rfl (by kernel_rfl) (by decide) NoP.np (fun _ => H.sub (by repeat (first | exact ln1 | exact ls1 | exact lr1 | apply lk1 | apply List.Sublist.cons | apply la1)))
 · intro w
   refine s_pick hF h rfl rfl rfl (by decide) ?_
   intro a h
   exact ⟨rfl, h⟩
 clear h; intro a h
 apply dQ0 hF h 35 rfl rfl (by kernel_rfl) (by decide) NoP.np (fun _ => H.sub (by repeat (first | exact ln1 | exact ls1 | exact lr1 | apply lk1 | apply List.Sublist.cons | apply la1)))
 · intro w
   refine sM0 hF h rfl rfl (by decide) ?_
   intro a h
   exact ⟨rfl, h⟩
 clear h; intro a h
 apply dQ0 hF h 36 rfl rfl (by kernel_rfl) (by decide) NoP.np (fun _ => H.sub (by repeat (first | exact ln1 | exact ls1 | exact lr1 | apply lk1 | apply List.Sublist.cons | apply la1)))
 · intro w
   first | (refine sK0 hF h rfl (by decide) ?_; intro a h) | (refine sM0 hF h rfl rfl (by decide) ?_; intro a h)
   exact ⟨rfl, h⟩
 clear h; intro a h
 apply dQ0 hF h 37 rfl rfl (by kernel_rfl) (by decide) NoP.np (fun _ => H.sub (by repeat (first | exact ln1 | exact ls1 | exact lr1 | apply lk1 | apply List.Sublist.cons | apply la1)))
 · intro w
   first | (refine sK0 hF h rfl (by decide) ?_; intro a h) | ((first | (refine i_indexAddr hF h rfl rfl rfl (by omega) rfl (by decide) ?_) | (refine i_indexAddrL hF h rfl rfl rfl (by omega) (by omega) (by decide) ?_)); intro a h; try simp only [Nat.zero_add, Nat.mul_one, Int.toNat_zero] at h)
   exact ⟨rfl, h⟩
 clear h; intro a h
 apply dP0 hF h 38 rfl rfl (by kernel_rfl) (by decide) NoP.np (by kernel_rfl) (H.sub (by repeat (first | exact ln1 | exact ls1 | exact lr1 | apply lk1 | apply List.Sublist.cons | apply la1)))
 · intro w H
   first | (refine sK0 hF h rfl (by decide) ?_; intro a h) | (refine iL0 hF h H rfl rfl (by repeat (first | exact mh1 | apply mt1 | apply ma1)) (by exact rfl) (by decide) ?_; intro a h)
   exact ⟨rfl, h⟩
 clear h; intro a h
 apply dQ0 hF h 39 rfl rfl (by kernel_rfl) (by decide) NoP.np (fun _ => H.sub (by repeat (first | exact ln1 | exact ls1 | exact lr1 | apply lk1 | apply List.Sublist.cons | apply la1)))
 · intro w
   first | (refine sK0 hF h rfl (by decide) ?_; intro a h) | ((first | (refine iC0 hF h rfl rfl rfl (i_eql_t (by omega)) (by decide) ?_) | (refine iC0 hF h rfl rfl rfl (i_eql_f (by omega)) (by decide) ?_)); intro a h)
   exact ⟨rfl, h⟩
 clear h; intro a h
 apply dQ0 hF h 40 rfl rfl (by kernel_rfl) (by decide) NoP.np (fun _ => H.sub (by repeat (first | exact ln1 | exact ls1 | exact lr1 | apply lk1 | apply List.Sublist.cons | apply la1)))
 · intro w
   refine s_pick hF h rfl rfl rfl (by decide) ?_
   intro a h
   exact ⟨rfl, h⟩
 clear h; intro a h
 apply dQ0 hF h 41 rfl rfl (by kernel_rfl) (by decide) NoP.np (fun _ => H.sub (by repeat (first | exact ln1 | exact ls1 | exact lr1 | apply lk1 | apply List.Sublist.cons | apply la1)))
 · intro w
   refine sM0 hF h rfl rfl (by decide) ?_
   intro a h
   exact ⟨rfl, h⟩
 clear h; intro a h
 apply dP0 hF h 42 rfl rfl (by kernel_rfl) (by decide) NoP.np (by kernel_rfl) (H.sub (by repeat (first | exact ln1 | exact ls1 | exact lr1 | apply lk1 | apply List.Sublist.cons | apply la1)))
 · intro w H
   first | (refine sK0 hF h rfl (by decide) ?_; intro a h) | (refine j_loadA hF h H rfl rfl (by repeat (first | exact mh1 | apply mt1 | apply ma1)) (by repeat (first | exact Seg.nil | apply Seg.take | apply Seg.skip)) (by decide) ?_; intro a h)
   exact ⟨rfl, h⟩
 clear h; intro a h
 refine dE0 43 rfl (by kernel_rfl) ?_
 first | (refine sK0 hF h rfl (by decide) ?_; clear h; intro a h) | (refine i_call hF h rfl (of_ret 23296 _) rfl (by decide) ?_; clear h; rintro _ w ⟨rfl, hb⟩ a h; replace H := H.call hb; clear hb)
 refine dN0 (H.sub (by repeat (first | exact ln1 | exact ls1 | exact lr1 | apply lk1 | apply List.Sublist.cons | apply la1))) ?_
 apply dQ0 hF h 44 rfl rfl (by kernel_rfl) (by decide) NoP.np (fun _ => H.sub (by repeat (first | exact ln1 | exact ls1 | exact lr1 | apply lk1 | apply List.Sublist.cons | apply la1)))
 · intro w
   first | (refine sK0 hF h rfl (by decide) ?_; intro a h) | (refine i_eqRun hF h rfl rfl rfl (eq48 _ _ _) (eqW _) (by decide) ?_; intro a h)
   exact ⟨rfl, h⟩
 clear h; intro a h
 apply dQ0 hF h 45 rfl rfl (by kernel_rfl) (by decide) NoP.np (fun _ => H.sub (by repeat (first | exact ln1 | exact ls1 | exact lr1 | apply lk1 | apply List.Sublist.cons | apply la1)))
 · intro w
   refine s_pick hF h rfl rfl rfl (by decide) ?_
   intro a h
   exact ⟨rfl, h⟩
 clear h; intro a h
 apply dQ0 hF h 46 rfl rfl (by kernel_rfl) (by decide) NoP.np (fun _ => H.sub (by repeat (first | exact ln1 | exact ls1 | exact lr1 | apply lk1 | apply List.Sublist.cons | apply la1)))
 · intro w
   refine sM0 hF h rfl rfl (by decide) ?_
   intro a h
   exact ⟨rfl, h⟩
 clear h; intro a h
 apply dQ0 hF h 47 rfl rfl (by kernel_rfl) (by decide) NoP.np (fun _ => H.sub (by repeat (first | exact ln1 | exact ls1 | exact lr1 | apply lk1 | apply List.Sublist.cons | apply la1)))
 · intro w
   first | (refine sK0 hF h rfl (by decide) ?_; intro a h) | (refine sM0 hF h rfl rfl (by decide) ?_; intro a h)
   exact ⟨rfl, h⟩
 clear h; intro a h
 apply dQ0 hF h 48 rfl rfl (by kernel_rfl) (by decide) NoP.np (fun _ => H.sub (by repeat (first | exact ln1 | exact ls1 | exact lr1 | apply lk1 | apply List.Sublist.cons | apply la1)))
 · intro w
   refine s_pick hF h rfl rfl rfl (by decide) ?_
   intro a h
   exact ⟨rfl, h⟩
 clear h; intro a h
 apply dQ0 hF h 49 rfl rfl (by kernel_rfl) (by decide) NoP.np (fun _ => H.sub (by repeat (first | exact ln1 | exact ls1 | exact lr1 | apply lk1 | apply List.Sublist.cons | apply la1)))
 · intro w
   refine sM0 hF h rfl rfl (by decide) ?_
   intro a h
   exact ⟨rfl, h⟩
 clear h; intro a h
 apply dQ0 hF h 50 rfl rfl (by kernel_rfl) (by decide) NoP.np (fun _ => H.sub (by repeat (first | exact ln1 | exact ls1 | exact lr1 | apply lk1 | apply List.Sublist.cons | apply la1)))
 · intro w
   first | (refine sK0 hF h rfl (by decide) ?_; intro a h) | (refine sM0 hF h rfl rfl (by decide) ?_; intro a h)
   exact ⟨rfl, h⟩
 clear h; intro a h
 apply dP0 hF h 51 rfl rfl (by kernel_rfl) (by decide) NoP.np (by kernel_rfl) (H.sub (by repeat (first | exact ln1 | exact ls1 | exact lr1 | apply lk1 | apply List.Sublist.cons | apply la1)))
 · intro w H
   first | (refine sK0 hF h rfl (by decide) ?_; intro a h) | (refine i_strB hF h rfl rfl (hE13 H) (by decide) ?_; intro a h)
   exact ⟨rfl, h⟩
 clear h; intro a h
 apply dQ0 hF h 52 rfl rfl (by kernel_rfl) (by decide) NoP.np (fun _ => H.sub (by repeat (first | exact ln1 | exact ls1 | exact lr1 | apply lk1 | apply List.Sublist.cons | apply la1)))
 · intro w
   first | (refine sK0 hF h rfl (by decide) ?_; intro a h) | (refine i_eqS hF h rfl rfl rfl rfl (by decide) ?_; intro a h)
   exact ⟨rfl, h⟩
 clear h; intro a h
 apply dQ0 hF h 53 rfl rfl (by kernel_rfl) (by decide) NoP.np (fun _ => H.sub (by repeat (first | exact ln1 | exact ls1 | exact lr1 | apply lk1 | apply List.Sublist.cons | apply la1)))
 · intro w
   refine s_pick hF h rfl rfl rfl (by decide) ?_
   intro a h
   exact ⟨rfl, h⟩
 clear h; intro a h
 apply dQ0 hF h 54 rfl rfl (by kernel_rfl) (by decide) NoP.np (fun _ => H.sub (by repeat (first | exact ln1 | exact ls1 | exact lr1 | apply lk1 | apply List.Sublist.cons | apply la1)))
 · intro w
   refine sM0 hF h rfl rfl (by decide) ?_
   intro a h
   exact ⟨rfl, h⟩
 clear h; intro a h
 apply dQ0 hF h 55 rfl rfl (by kernel_rfl) (by decide) NoP.np (fun _ => H.sub (by repeat (first | exact ln1 | exact ls1 | exact lr1 | apply lk1 | apply List.Sublist.cons | apply la1)))
 · intro w
   first | (refine sK0 hF h rfl (by decide) ?_; intro a h) | (refine sM0 hF h rfl rfl (by decide) ?_; intro a h)
   exact ⟨rfl, h⟩
 clear h; intro a h
 refine dE0 56 rfl (by kernel_rfl) ?_
 first | (refine sK0 hF h rfl (by decide) ?_; clear h; intro a h) | (refine i_call hF h rfl (num_ret _ _) rfl (by decide) ?_; clear h; rintro _ w ⟨rfl, hb⟩ a h; replace H := H.call hb; clear hb)
 refine dN0 (H.sub (by repeat (first | exact ln1 | exact ls1 | exact lr1 | apply lk1 | apply List.Sublist.cons | apply la1))) ?_
 apply dQ0 hF h 57 rfl rfl (by kernel_rfl) (by decide) NoP.np (fun _ => H.sub (by repeat (first | exact ln1 | exact ls1 | exact lr1 | apply lk1 | apply List.Sublist.cons | apply la1)))
 · intro w
   first | (refine sK0 hF h rfl (by decide) ?_; intro a h) | ((first | (refine iC0 hF h rfl rfl rfl (i_eql_t (by omega)) (by decide) ?_) | (refine iC0 hF h rfl rfl rfl (i_eql_f (by omega)) (by decide) ?_)); intro a h)
   exact ⟨rfl, h⟩
 clear h; intro a h
 apply dQ0 hF h 58 rfl rfl (by kernel_rfl) (by decide) NoP.np (fun _ => H.sub (by repeat (first | exact ln1 | exact ls1 | exact lr1 | apply lk1 | apply List.Sublist.cons | apply la1)))
 · intro w
   refine s_pick hF h rfl rfl rfl (by decide) ?_
   intro a h
   exact ⟨rfl, h⟩
 clear h; intro a h
 apply dQ0 hF h 59 rfl rfl (by kernel_rfl) (by decide) NoP.np (fun _ => H.sub (by repeat (first | exact ln1 | exact ls1 | exact lr1 | apply lk1 | apply List.Sublist.cons | apply la1)))
 · intro w
   refine sM0 hF h rfl rfl (by decide) ?_
   intro a h
   exact ⟨rfl, h⟩
 clear h; intro a h
 apply dQ0 hF h 60 rfl rfl (by kernel_rfl) (by decide) NoP.np (fun _ => H.sub (by repeat (first | exact ln1 | exact ls1 | exact lr1 | apply lk1 | apply List.Sublist.cons | apply la1)))
 · intro w
   first | (refine sK0 hF h rfl (by decide) ?_; intro a h) | (refine sM0 hF h rfl rfl (by decide) ?_; intro a h)
   exact ⟨rfl, h⟩
 clear h; intro a h
 refine dE0 61 rfl (by kernel_rfl) ?_
 first | (refine sK0 hF h rfl (by decide) ?_; clear h; intro a h) | (refine i_call hF h rfl (num_ret _ _) rfl (by decide) ?_; clear h; rintro _ w ⟨rfl, hb⟩ a h; replace H := H.call hb; clear hb)
 refine dN0 (H.sub (by repeat (first | exact ln1 | exact ls1 | exact lr1 | apply lk1 | apply List.Sublist.cons | apply la1))) ?_
 apply dQ0 hF h 62 rfl rfl (by kernel_rfl) (by decide) NoP.np (fun _ => H.sub (by repeat (first | exact ln1 | exact ls1 | exact lr1 | apply lk1 | apply List.Sublist.cons | apply la1)))
 · intro w
   first | (refine sK0 hF h rfl (by decide) ?_; intro a h) | ((first | (refine iC0 hF h rfl rfl rfl (i_eql_t (by omega)) (by decide) ?_) | (refine iC0 hF h rfl rfl rfl (i_eql_f (by omega)) (by decide) ?_)); intro a h)
   exact ⟨rfl, h⟩
 clear h; intro a h
 apply dQ0 hF h 63 rfl rfl (by kernel_rfl) (by decide) NoP.np (fun _ => H.sub (by repeat (first | exact ln1 | exact ls1 | exact lr1 | apply lk1 | apply List.Sublist.cons | apply la1)))
 · intro w
   refine s_pick hF h rfl rfl rfl (by decide) ?_
   intro a h
   exact ⟨rfl, h⟩
 clear h; intro a h
 apply dQ0 hF h 64 rfl rfl (by kernel_rfl) (by decide) NoP.np (fun _ => H.sub (by repeat (first | exact ln1 | exact ls1 | exact lr1 | apply lk1 | apply List.Sublist.cons | apply la1)))
 · intro w
   refine sA0 hF h rfl rfl (by decide) ?_
   intro a h
   exact ⟨rfl, h⟩
 clear h; intro a h
 first | refine d_endThen (by kernel_rfl) ?_ | refine d_endQ (by kernel_rfl) ?_
 refine c_ret ?_
 with_reducible repeat (first | refine xa0 ?_ | refine xb0 ?_ | refine xc0 ?_ | refine xd0 ?_ | refine xe0 (by decide) ?_ | refine xf0 ?_ | refine xg0 ?_ | refine xh0 ?_ | refine xi0 ?_)
 refine leave (fn := Tryz.f7) h Tryz.results7 (.tmp rfl (.nil)) ?_
 exact ⟨_, rfl, rfl, H.done⟩
end Go.Proofs.YtjlmpghcjgbfjaaGreatDoor.Cw
namespace Go.Proofs.YtjlmpghcjgbfjaaGreatDoor.Cw
open Go Go.RowKit Go.Proofs Ex Cd
set_option maxRecDepth 100000
theorem join_cons_le (x : List UInt8) (r : List (List UInt8)) : x.length + (Cd.join r).length ≤ (Cd.join (x :: r)).length := by
 cases r with
 | nil => rw [join_one]; simp [Cd.join, List.intercalate]
 | cons y r => rw [join_cons2, List.length_append, List.length_cons]; omega
theorem parseW_len : ∀ (m : Nat) (ws : List (List UInt8)), ws.length ≤ m → ∀ a, parseW ws = some a → a.length ≤ (Cd.join ws).length
 | _, [], _, a, h => by rw [parseW] at h; cases h; simp
 | 0, _ :: _, h, _, _ => by simp at h
 | m + 1, x :: r, hm, a, h => by
  have hj := join_cons_le x r
  rw [parseW] at h
  cases hx : named x with
  | some op =>
   rw [hx] at h
   obtain ⟨ho, i, hi, rfl⟩ := named_info _ _ hx
   have hp := name_plain op i ho hi
   simp only [Bool.and_eq_true, decide_eq_true_eq] at hp
   dsimp only at h
   split at h
   · simp only [Option.map_eq_some_iff] at h
     obtain ⟨t, ht, rfl⟩ := h
     have ih := parseW_len m r (by simp at hm; omega) t ht
     simp; omega
   · cases r with
     | nil => cases h
     | cons y r' =>
      have hj2 := join_cons_le y r'
      dsimp only at h
      cases hb : bytesOf (sz op) y with
      | none => rw [hb] at h; cases h
      | some b =>
       rw [hb] at h
       simp only [Option.map_eq_some_iff] at h
       obtain ⟨t, ht, rfl⟩ := h
       obtain ⟨rfl, hl⟩ := bytesOf_some _ _ _ hb
       have ih := parseW_len m r' (by simp at hm; omega) t ht
       have : (hex b).length = 2 + 2 * b.length := by simp [hex, hexs_length]; omega
       simp; omega
  | none =>
   rw [hx] at h
   dsimp only at h
   split at h
   · rename_i b hb
     obtain ⟨rfl, _⟩ := bytesOf_some _ _ _ hb
     split at h
     · cases h
     · simp only [Option.map_eq_some_iff] at h
       obtain ⟨t, ht, rfl⟩ := h
       have ih := parseW_len m r (by simp at hm; omega) t ht
       have : (hex [b]).length = 4 := by simp [hex, hexs_length]
       simp; omega
   · cases h
theorem readL_len (s : List UInt8) : (readL (parse s)).length ≤ s.length := by
 unfold parse
 split
 · simp [readL]
 · split
   · simp [readL]
   · cases hp : parseW (split s) with
     | none => simp [readL]
     | some l =>
      have := parseW_len _ _ (Nat.le_refl _) l hp
      rw [join_split] at this
      exact this
theorem reads_law (s : List UInt8) (w0 : World) : Rets Tryz.prog 5 [str s] w0 fun v w' => v = .bool true ∧ Below w0.heap.size w0 w' := by
 refine enter Tryz.func5 rfl (Nat.le_of_ble_eq_true rfl) ?_
 intro a h; rw [Tryz.ntmps5] at h
 have hF := Fd.wide; have H := St.begin w0
 repeat refine cS0 ?_
 refine cR0 ?_
 refine sA0 hF h rfl rfl (by decide) ?_
 clear h; intro a h
 first | refine cEt0 ?_ | refine cE0 ?_
 by_cases hl : 800 < s.length
 · repeat refine cS0 ?_
   refine cR0 ?_
   refine sM0 hF h rfl rfl (by decide) ?_
   clear h; intro a h
   (first | (refine i_len hF h rfl rfl (by decide) ?_) | (refine i_lenS hF h rfl rfl (by decide) ?_))
   clear h; intro a h
   (first | (refine iC0 hF h rfl rfl rfl (i_gtr_t (by omega)) (by decide) ?_) | (refine iC0 hF h rfl rfl rfl (i_gtr_f (by omega)) (by decide) ?_))
   clear h; intro a h
   first | refine cEt0 ?_ | refine cE0 ?_
   repeat refine cS0 ?_
   refine c_condT h rfl ?_
   repeat refine cS0 ?_
   refine cR0 ?_
   refine i_call hF h rfl (works_ret _) rfl (by decide) ?_
   clear h; rintro _ w ⟨rfl, hb⟩ a h; replace H := H.call hb; clear hb
   refine sA0 hF h rfl rfl (by decide) ?_
   clear h; intro a h
   first | refine cEt0 ?_ | refine cE0 ?_
   refine c_ret ?_
   with_reducible repeat (first | refine xa0 ?_ | refine xb0 ?_ | refine xc0 ?_ | refine xd0 ?_ | refine xe0 (by decide) ?_ | refine xf0 ?_ | refine xg0 ?_ | refine xh0 ?_ | refine xi0 ?_)
   refine leave (fn := Tryz.f5) h Tryz.results5 (.tmp rfl (.nil)) ?_
   exact ⟨_, rfl, rfl, H.done⟩
 have hrl := readL_len s
 repeat refine cS0 ?_
 refine cR0 ?_
 refine sM0 hF h rfl rfl (by decide) ?_
 clear h; intro a h
 (first | (refine i_len hF h rfl rfl (by decide) ?_) | (refine i_lenS hF h rfl rfl (by decide) ?_))
 clear h; intro a h
 (first | (refine iC0 hF h rfl rfl rfl (i_gtr_t (by omega)) (by decide) ?_) | (refine iC0 hF h rfl rfl rfl (i_gtr_f (by omega)) (by decide) ?_))
 clear h; intro a h
 first | refine cEt0 ?_ | refine cE0 ?_
 repeat refine cS0 ?_
 refine c_condF h rfl ?_
 first | refine cKt0 ?_ | refine cK0 ?_
 repeat refine cS0 ?_
 refine cR0 ?_
 refine sM0 hF h rfl rfl (by decide) ?_
 clear h; intro a h
 refine i_call hF h rfl (parse_retR s (by omega) _) rfl (by decide) ?_
 clear h; rintro _ w ⟨v3, rfl, hg⟩ a h; obtain ⟨R3, hr3, H2⟩ := H.row hg; replace H := H2; clear H2 hg
 refine sM0 hF h rfl rfl (by decide) ?_
 clear h; intro a h
 refine iX0 hF h rfl rfl rfl (by decide) ?_
 clear h; intro a h
 refine iX0 hF h rfl rfl rfl (by decide) ?_
 clear h; intro a h
 refine sA0 hF h rfl rfl (by decide) ?_
 clear h; intro a h
 refine sA0 hF h rfl rfl (by decide) ?_
 clear h; intro a h
 first | refine cEt0 ?_ | refine cE0 ?_
 repeat refine cS0 ?_
 refine cR0 ?_
 refine sM0 hF h rfl rfl (by decide) ?_
 clear h; intro a h
 refine i_call hF h rfl (rparse_ret s (by omega) _) rfl (by decide) ?_
 clear h; rintro _ w ⟨v5, rfl, hg⟩ a h; obtain ⟨R5, hr5, H2⟩ := H.row hg; replace H := H2; clear H2 hg
 refine sM0 hF h rfl rfl (by decide) ?_
 clear h; intro a h
 refine iX0 hF h rfl rfl rfl (by decide) ?_
 clear h; intro a h
 refine iX0 hF h rfl rfl rfl (by decide) ?_
 clear h; intro a h
 refine sA0 hF h rfl rfl (by decide) ?_
 clear h; intro a h
 refine sA0 hF h rfl rfl (by decide) ?_
 clear h; intro a h
 first | refine cEt0 ?_ | refine cE0 ?_
 have h3 : ∀ {w' : World}, St w0.heap.size w0 (R5 ++ (R3 ++ [])) w' → BS w' v3 (readL (parse s)) := fun H' => (ES.row (l := readL (parse s)) hr3 (H'.sub (List.sublist_append_right R5 _))).1
 cases hp : parse s with
 | code l =>
  have ht := text_parse s l hp
  rw [hp] at hr3 hr5 h3 hrl
  simp only [hp, readNo] at h
  repeat refine cS0 ?_
  refine cR0 ?_
  refine sM0 hF h rfl rfl (by decide) ?_
  clear h; intro a h
  refine i_strB hF h rfl rfl (h3 H) (by decide) ?_
  clear h; intro a h
  refine sM0 hF h rfl rfl (by decide) ?_
  clear h; intro a h
  refine i_strB hF h rfl rfl (ES.row hr5 H).1 (by decide) ?_
  clear h; intro a h
  refine i_eqS hF h rfl rfl rfl (show (l == l) = true from beq_iff_eq.2 rfl) (by decide) ?_
  clear h; intro a h
  refine sM0 hF h rfl rfl (by decide) ?_
  clear h; intro a h
  first | (refine sK0 hF h rfl (by decide) ?_; clear h; intro a h) | (refine sM0 hF h rfl rfl (by decide) ?_; clear h; intro a h)
  first | (refine sK0 hF h rfl (by decide) ?_; clear h; intro a h) | (refine i_call hF h rfl (num_ret _ _) rfl (by decide) ?_; clear h; rintro _ w ⟨rfl, hb⟩ a h; replace H := H.call hb; clear hb)
  first | (refine sK0 hF h rfl (by decide) ?_; clear h; intro a h) | (refine sM0 hF h rfl rfl (by decide) ?_; clear h; intro a h)
  first | (refine sK0 hF h rfl (by decide) ?_; clear h; intro a h) | ((first | (refine iC0 hF h rfl rfl rfl (i_eql_t (by omega)) (by decide) ?_) | (refine iC0 hF h rfl rfl rfl (i_eql_f (by omega)) (by decide) ?_)); clear h; intro a h)
  refine s_pick hF h rfl rfl rfl (by decide) ?_
  clear h; intro a h
  refine sM0 hF h rfl rfl (by decide) ?_
  clear h; intro a h
  first | (refine sK0 hF h rfl (by decide) ?_; clear h; intro a h) | (refine sM0 hF h rfl rfl (by decide) ?_; clear h; intro a h)
  first | (refine sK0 hF h rfl (by decide) ?_; clear h; intro a h) | ((first | (refine iC0 hF h rfl rfl rfl (i_neq_t (by omega)) (by decide) ?_) | (refine iC0 hF h rfl rfl rfl (i_neq_f (by omega)) (by decide) ?_)); clear h; intro a h)
  first | (refine sK0 hF h rfl (by decide) ?_; clear h; intro a h) | (refine sM0 hF h rfl rfl (by decide) ?_; clear h; intro a h)
  first | (refine sK0 hF h rfl (by decide) ?_; clear h; intro a h) | (refine sM0 hF h rfl rfl (by decide) ?_; clear h; intro a h)
  first | (refine sK0 hF h rfl (by decide) ?_; clear h; intro a h) | (refine i_call hF h rfl (text_ret _ l (by have : l.length ≤ s.length := hrl; omega) _ (h3 H)) rfl (by decide) ?_; clear h; rintro _ w ⟨rfl, hb⟩ a h; replace H := H.call hb; clear hb)
  first | (refine sK0 hF h rfl (by decide) ?_; clear h; intro a h) | (refine sM0 hF h rfl rfl (by decide) ?_; clear h; intro a h)
  first | (refine sK0 hF h rfl (by decide) ?_; clear h; intro a h) | (refine i_eqS hF h rfl rfl rfl (show (Cd.text l == s) = true from beq_iff_eq.2 ht) (by decide) ?_; clear h; intro a h)
  first | (refine sK0 hF h rfl (by decide) ?_; clear h; intro a h) | (refine s_pick hF h rfl rfl rfl (by decide) ?_; clear h; intro a h)
  refine s_pick hF h rfl rfl rfl (by decide) ?_
  clear h; intro a h
  refine sM0 hF h rfl rfl (by decide) ?_
  clear h; intro a h
  first | (refine sK0 hF h rfl (by decide) ?_; clear h; intro a h) | (refine i_call hF h rfl (works_ret _) rfl (by decide) ?_; clear h; rintro _ w ⟨rfl, hb⟩ a h; replace H := H.call hb; clear hb)
  refine s_pick hF h rfl rfl rfl (by decide) ?_
  clear h; intro a h
  refine sA0 hF h rfl rfl (by decide) ?_
  clear h; intro a h
  first | refine cEt0 ?_ | refine cE0 ?_
  refine c_ret ?_
  with_reducible repeat (first | refine xa0 ?_ | refine xb0 ?_ | refine xc0 ?_ | refine xd0 ?_ | refine xe0 (by decide) ?_ | refine xf0 ?_ | refine xg0 ?_ | refine xh0 ?_ | refine xi0 ?_)
  refine leave (fn := Tryz.f5) h Tryz.results5 (.tmp rfl (.nil)) ?_
  exact ⟨_, rfl, rfl, H.done⟩
 | long =>
  rw [hp] at hr3 hr5 h3 hrl
  simp only [hp, readNo] at h
  repeat refine cS0 ?_
  refine cR0 ?_
  refine sM0 hF h rfl rfl (by decide) ?_
  clear h; intro a h
  refine i_strB hF h rfl rfl (h3 H) (by decide) ?_
  clear h; intro a h
  refine sM0 hF h rfl rfl (by decide) ?_
  clear h; intro a h
  refine i_strB hF h rfl rfl (ES.row hr5 H).1 (by decide) ?_
  clear h; intro a h
  refine i_eqS hF h rfl rfl rfl (show (([] : List UInt8) == []) = true from rfl) (by decide) ?_
  clear h; intro a h
  refine sM0 hF h rfl rfl (by decide) ?_
  clear h; intro a h
  first | (refine sK0 hF h rfl (by decide) ?_; clear h; intro a h) | (refine sM0 hF h rfl rfl (by decide) ?_; clear h; intro a h)
  first | (refine sK0 hF h rfl (by decide) ?_; clear h; intro a h) | (refine i_call hF h rfl (num_ret _ _) rfl (by decide) ?_; clear h; rintro _ w ⟨rfl, hb⟩ a h; replace H := H.call hb; clear hb)
  first | (refine sK0 hF h rfl (by decide) ?_; clear h; intro a h) | (refine sM0 hF h rfl rfl (by decide) ?_; clear h; intro a h)
  first | (refine sK0 hF h rfl (by decide) ?_; clear h; intro a h) | ((first | (refine iC0 hF h rfl rfl rfl (i_eql_t (by omega)) (by decide) ?_) | (refine iC0 hF h rfl rfl rfl (i_eql_f (by omega)) (by decide) ?_)); clear h; intro a h)
  refine s_pick hF h rfl rfl rfl (by decide) ?_
  clear h; intro a h
  refine sM0 hF h rfl rfl (by decide) ?_
  clear h; intro a h
  first | (refine sK0 hF h rfl (by decide) ?_; clear h; intro a h) | (refine sM0 hF h rfl rfl (by decide) ?_; clear h; intro a h)
  first | (refine sK0 hF h rfl (by decide) ?_; clear h; intro a h) | ((first | (refine iC0 hF h rfl rfl rfl (i_neq_t (by omega)) (by decide) ?_) | (refine iC0 hF h rfl rfl rfl (i_neq_f (by omega)) (by decide) ?_)); clear h; intro a h)
  first | (refine sK0 hF h rfl (by decide) ?_; clear h; intro a h) | (refine sM0 hF h rfl rfl (by decide) ?_; clear h; intro a h)
  first | (refine sK0 hF h rfl (by decide) ?_; clear h; intro a h) | (refine sM0 hF h rfl rfl (by decide) ?_; clear h; intro a h)
  first | (refine sK0 hF h rfl (by decide) ?_; clear h; intro a h) | (refine i_call hF h rfl (text_ret _ l (by have : l.length ≤ s.length := hrl; omega) _ (h3 H)) rfl (by decide) ?_; clear h; rintro _ w ⟨rfl, hb⟩ a h; replace H := H.call hb; clear hb)
  first | (refine sK0 hF h rfl (by decide) ?_; clear h; intro a h) | (refine sM0 hF h rfl rfl (by decide) ?_; clear h; intro a h)
  first | (refine sK0 hF h rfl (by decide) ?_; clear h; intro a h) | (refine i_eqS hF h rfl rfl rfl (show (Cd.text l == s) = true from beq_iff_eq.2 ht) (by decide) ?_; clear h; intro a h)
  first | (refine sK0 hF h rfl (by decide) ?_; clear h; intro a h) | (refine s_pick hF h rfl rfl rfl (by decide) ?_; clear h; intro a h)
  refine s_pick hF h rfl rfl rfl (by decide) ?_
  clear h; intro a h
  refine sM0 hF h rfl rfl (by decide) ?_
  clear h; intro a h
  first | (refine sK0 hF h rfl (by decide) ?_; clear h; intro a h) | (refine i_call hF h rfl (works_ret _) rfl (by decide) ?_; clear h; rintro _ w ⟨rfl, hb⟩ a h; replace H := H.call hb; clear hb)
  refine s_pick hF h rfl rfl rfl (by decide) ?_
  clear h; intro a h
  refine sA0 hF h rfl rfl (by decide) ?_
  clear h; intro a h
  first | refine cEt0 ?_ | refine cE0 ?_
  refine c_ret ?_
  with_reducible repeat (first | refine xa0 ?_ | refine xb0 ?_ | refine xc0 ?_ | refine xd0 ?_ | refine xe0 (by decide) ?_ | refine xf0 ?_ | refine xg0 ?_ | refine xh0 ?_ | refine xi0 ?_)
  refine leave (fn := Tryz.f5) h Tryz.results5 (.tmp rfl (.nil)) ?_
  exact ⟨_, rfl, rfl, H.done⟩
 | bad =>
  rw [hp] at hr3 hr5 h3 hrl
  simp only [hp, readNo] at h
  repeat refine cS0 ?_
  refine cR0 ?_
  refine sM0 hF h rfl rfl (by decide) ?_
  clear h; intro a h
  refine i_strB hF h rfl rfl (h3 H) (by decide) ?_
  clear h; intro a h
  refine sM0 hF h rfl rfl (by decide) ?_
  clear h; intro a h
  refine i_strB hF h rfl rfl (ES.row hr5 H).1 (by decide) ?_
  clear h; intro a h
  refine i_eqS hF h rfl rfl rfl (show (([] : List UInt8) == []) = true from rfl) (by decide) ?_
  clear h; intro a h
  refine sM0 hF h rfl rfl (by decide) ?_
  clear h; intro a h
  first | (refine sK0 hF h rfl (by decide) ?_; clear h; intro a h) | (refine sM0 hF h rfl rfl (by decide) ?_; clear h; intro a h)
  first | (refine sK0 hF h rfl (by decide) ?_; clear h; intro a h) | (refine i_call hF h rfl (num_ret _ _) rfl (by decide) ?_; clear h; rintro _ w ⟨rfl, hb⟩ a h; replace H := H.call hb; clear hb)
  first | (refine sK0 hF h rfl (by decide) ?_; clear h; intro a h) | (refine sM0 hF h rfl rfl (by decide) ?_; clear h; intro a h)
  first | (refine sK0 hF h rfl (by decide) ?_; clear h; intro a h) | ((first | (refine iC0 hF h rfl rfl rfl (i_eql_t (by omega)) (by decide) ?_) | (refine iC0 hF h rfl rfl rfl (i_eql_f (by omega)) (by decide) ?_)); clear h; intro a h)
  refine s_pick hF h rfl rfl rfl (by decide) ?_
  clear h; intro a h
  refine sM0 hF h rfl rfl (by decide) ?_
  clear h; intro a h
  first | (refine sK0 hF h rfl (by decide) ?_; clear h; intro a h) | (refine sM0 hF h rfl rfl (by decide) ?_; clear h; intro a h)
  first | (refine sK0 hF h rfl (by decide) ?_; clear h; intro a h) | ((first | (refine iC0 hF h rfl rfl rfl (i_neq_t (by omega)) (by decide) ?_) | (refine iC0 hF h rfl rfl rfl (i_neq_f (by omega)) (by decide) ?_)); clear h; intro a h)
  first | (refine sK0 hF h rfl (by decide) ?_; clear h; intro a h) | (refine sM0 hF h rfl rfl (by decide) ?_; clear h; intro a h)
  first | (refine sK0 hF h rfl (by decide) ?_; clear h; intro a h) | (refine sM0 hF h rfl rfl (by decide) ?_; clear h; intro a h)
  first | (refine sK0 hF h rfl (by decide) ?_; clear h; intro a h) | (refine i_call hF h rfl (text_ret _ l (by have : l.length ≤ s.length := hrl; omega) _ (h3 H)) rfl (by decide) ?_; clear h; rintro _ w ⟨rfl, hb⟩ a h; replace H := H.call hb; clear hb)
  first | (refine sK0 hF h rfl (by decide) ?_; clear h; intro a h) | (refine sM0 hF h rfl rfl (by decide) ?_; clear h; intro a h)
  first | (refine sK0 hF h rfl (by decide) ?_; clear h; intro a h) | (refine i_eqS hF h rfl rfl rfl (show (Cd.text l == s) = true from beq_iff_eq.2 ht) (by decide) ?_; clear h; intro a h)
  first | (refine sK0 hF h rfl (by decide) ?_; clear h; intro a h) | (refine s_pick hF h rfl rfl rfl (by decide) ?_; clear h; intro a h)
  refine s_pick hF h rfl rfl rfl (by decide) ?_
  clear h; intro a h
  refine sM0 hF h rfl rfl (by decide) ?_
  clear h; intro a h
  first | (refine sK0 hF h rfl (by decide) ?_; clear h; intro a h) | (refine i_call hF h rfl (works_ret _) rfl (by decide) ?_; clear h; rintro _ w ⟨rfl, hb⟩ a h; replace H := H.call hb; clear hb)
  refine s_pick hF h rfl rfl rfl (by decide) ?_
  clear h; intro a h
  refine sA0 hF h rfl rfl (by decide) ?_
  clear h; intro a h
  first | refine cEt0 ?_ | refine cE0 ?_
  refine c_ret ?_
  with_reducible repeat (first | refine xa0 ?_ | refine xb0 ?_ | refine xc0 ?_ | refine xd0 ?_ | refine xe0 (by decide) ?_ | refine xf0 ?_ | refine xg0 ?_ | refine xh0 ?_ | refine xi0 ?_)
  refine leave (fn := Tryz.f5) h Tryz.results5 (.tmp rfl (.nil)) ?_
  exact ⟨_, rfl, rfl, H.done⟩
end Go.Proofs.YtjlmpghcjgbfjaaGreatDoor.Cw
namespace Go.Proofs.YtjlmpghcjgbfjaaGreatDoor.Cw
open Go Go.RowKit Go.Proofs Ex Cd
set_option maxRecDepth 100000
theorem GivesRow_slice {α : Type} {e : TypeId} {enc : α → Value} {l : List α} {v : Value} {R : List (Nat × Obj)} (h : RowIs e 1 v l.length (l.map enc) R) : ∃ p cap, v = .slice p l.length cap ∧ l.length ≤ cap := by
 rcases h.2 with ⟨rfl, h0, _⟩ | ⟨b, cap, junk, rfl, hle, _⟩
 · exact ⟨none, 0, by rw [h0], by omega⟩
 · exact ⟨_, cap, rfl, hle⟩
theorem ES_take {α : Type} {enc : α → Value} {w : World} {p : Option Addr} {cap : Nat} {l r : List α} (h : ES enc w (.slice p (l ++ r).length cap) (l ++ r)) : ES enc w (.slice p l.length cap) l := by
 obtain ⟨p', cap', e, hc, hp⟩ := h
 cases e
 have : (l ++ r).length = l.length + r.length := List.length_append
 refine ⟨p, cap, rfl, by omega, ?_⟩
 rcases hp with ⟨rfl, h0⟩ | ⟨b, off, rfl, hb, hcell⟩
 · exact .inl ⟨rfl, (List.append_eq_nil_iff.1 h0).1⟩
 · exact .inr ⟨b, off, rfl, hb, fun j x hj => hcell j x (by rw [List.getElem?_append_left (List.getElem?_eq_some_iff.1 hj).1]; exact hj)⟩
theorem texts_law (v : Value) (c : List UInt8) (w0 : World) (hB : BS w0 v c) : Rets Tryz.prog 4 [v] w0 fun u w' => u = .bool true ∧ Below w0.heap.size w0 w' := by
 obtain ⟨pv, capv, rfl, hcapv, _⟩ := id hB
 refine enter Tryz.func4 rfl (Nat.le_of_ble_eq_true rfl) ?_
 intro a h; rw [Tryz.ntmps4] at h
 have hF := Fd.wide; have H := St.begin w0
 repeat refine cS0 ?_
 refine cR0 ?_
 refine sA0 hF h rfl rfl (by decide) ?_
 clear h; intro a h
 first | refine cEt0 ?_ | refine cE0 ?_
 by_cases hl : 300 < c.length
 · repeat refine cS0 ?_
   refine cR0 ?_
   refine sM0 hF h rfl rfl (by decide) ?_
   clear h; intro a h
   refine i_len hF h rfl rfl (by decide) ?_
   clear h; intro a h
   (first | (refine iC0 hF h rfl rfl rfl (i_gtr_t (by omega)) (by decide) ?_) | (refine iC0 hF h rfl rfl rfl (i_gtr_f (by omega)) (by decide) ?_))
   clear h; intro a h
   first | refine cEt0 ?_ | refine cE0 ?_
   repeat refine cS0 ?_
   refine c_condT h rfl ?_
   repeat refine cS0 ?_
   refine cR0 ?_
   refine i_call hF h rfl (works_ret _) rfl (by decide) ?_
   clear h; rintro _ w ⟨rfl, hb⟩ a h; replace H := H.call hb; clear hb
   refine sA0 hF h rfl rfl (by decide) ?_
   clear h; intro a h
   first | refine cEt0 ?_ | refine cE0 ?_
   refine c_ret ?_
   with_reducible repeat (first | refine xa0 ?_ | refine xb0 ?_ | refine xc0 ?_ | refine xd0 ?_ | refine xe0 (by decide) ?_ | refine xf0 ?_ | refine xg0 ?_ | refine xh0 ?_ | refine xi0 ?_)
   refine leave (fn := Tryz.f4) h Tryz.results4 (.tmp rfl (.nil)) ?_
   exact ⟨_, rfl, rfl, H.done⟩
 have htl := text_length c
 have hpt := parse_text c (by omega)
 have hp0 : readNo (parse (Cd.text c)) = 0 := by rw [hpt]; rfl
 have hpL : readL (parse (Cd.text c)) = fill c := by rw [hpt]; rfl
 have htf := text_fill c (by omega)
 obtain ⟨kf, hkf, hfs⟩ := fill_spec c
 have hfl : (fill c).length = c.length + kf := by rw [hfs]; simp
 repeat refine cS0 ?_
 refine cR0 ?_
 refine sM0 hF h rfl rfl (by decide) ?_
 clear h; intro a h
 refine i_len hF h rfl rfl (by decide) ?_
 clear h; intro a h
 (first | (refine iC0 hF h rfl rfl rfl (i_gtr_t (by omega)) (by decide) ?_) | (refine iC0 hF h rfl rfl rfl (i_gtr_f (by omega)) (by decide) ?_))
 clear h; intro a h
 first | refine cEt0 ?_ | refine cE0 ?_
 repeat refine cS0 ?_
 refine c_condF h rfl ?_
 first | refine cKt0 ?_ | refine cK0 ?_
 repeat refine cS0 ?_
 refine cR0 ?_
 refine sM0 hF h rfl rfl (by decide) ?_
 clear h; intro a h
 refine i_call hF h rfl (text_ret _ c (by omega) _ (hB.at H (Nat.le_refl _))) rfl (by decide) ?_
 clear h; rintro _ w ⟨rfl, hb⟩ a h; replace H := H.call hb; clear hb
 refine sA0 hF h rfl rfl (by decide) ?_
 clear h; intro a h
 first | refine cEt0 ?_ | refine cE0 ?_
 repeat refine cS0 ?_
 refine cR0 ?_
 refine sM0 hF h rfl rfl (by decide) ?_
 clear h; intro a h
 refine i_call hF h rfl (parse_retR (Cd.text c) (by omega) _) rfl (by decide) ?_
 clear h; rintro _ w ⟨v4, rfl, hg⟩ a h; rw [hp0] at h; rw [hpL] at hg; obtain ⟨R4, hr4, H2⟩ := H.row hg; replace H := H2; clear H2 hg; obtain ⟨p4, cap4, rfl, hcap4⟩ := GivesRow_slice hr4
 refine sM0 hF h rfl rfl (by decide) ?_
 clear h; intro a h
 refine iX0 hF h rfl rfl rfl (by decide) ?_
 clear h; intro a h
 refine iX0 hF h rfl rfl rfl (by decide) ?_
 clear h; intro a h
 refine sA0 hF h rfl rfl (by decide) ?_
 clear h; intro a h
 refine sA0 hF h rfl rfl (by decide) ?_
 clear h; intro a h
 first | refine cEt0 ?_ | refine cE0 ?_
 repeat refine cS0 ?_
 refine cR0 ?_
 refine sM0 hF h rfl rfl (by decide) ?_
 clear h; intro a h
 refine i_call hF h rfl (rparse_ret (Cd.text c) (by omega) _) rfl (by decide) ?_
 clear h; rintro _ w ⟨v6, rfl, hg⟩ a h; rw [hp0] at h; rw [hpL] at hg; obtain ⟨R6, hr6, H2⟩ := H.row hg; replace H := H2; clear H2 hg
 refine sM0 hF h rfl rfl (by decide) ?_
 clear h; intro a h
 refine iX0 hF h rfl rfl rfl (by decide) ?_
 clear h; intro a h
 refine iX0 hF h rfl rfl rfl (by decide) ?_
 clear h; intro a h
 refine sA0 hF h rfl rfl (by decide) ?_
 clear h; intro a h
 refine sA0 hF h rfl rfl (by decide) ?_
 clear h; intro a h
 first | refine cEt0 ?_ | refine cE0 ?_
 have h4 : ∀ {w' : World}, St w0.heap.size w0 (R6 ++ (R4 ++ [])) w' → BS w' (.slice p4 (fill c).length cap4) (fill c) := fun H' => (ES.row (l := fill c) hr4 (H'.sub (List.sublist_append_right R6 _))).1
 have h6 : ∀ {w' : World}, St w0.heap.size w0 (R6 ++ (R4 ++ [])) w' → BS w' v6 (fill c) := fun H' => (ES.row (l := fill c) hr6 H').1
 have hpre : ∀ {w' : World}, BS w' (.slice p4 (fill c).length cap4) (fill c) → BS w' (.slice p4 c.length cap4) c := fun h => ES_take (r := List.replicate kf 0) (by rw [← hfs]; exact h)
 repeat refine cS0 ?_
 refine d_regionL [] (by kernel_rfl) H ?_
 clear H; intro w H
 apply dQ0 hF h 0 rfl rfl (by kernel_rfl) (by decide) NoP.np (fun _ => H.sub (by repeat (first | exact ln1 | exact ls1 | exact lr1 | apply lk1 | apply List.Sublist.cons | apply la1)))
 · intro w
   refine sM0 hF h rfl rfl (by decide) ?_
   intro a h
   exact ⟨rfl, h⟩
 clear h; intro a h
 apply dQ0 hF h 1 rfl rfl (by kernel_rfl) (by decide) NoP.np (fun _ => H.sub (by repeat (first | exact ln1 | exact ls1 | exact lr1 | apply lk1 | apply List.Sublist.cons | apply la1)))
 · intro w
   refine sM0 hF h rfl rfl (by decide) ?_
   intro a h
   exact ⟨rfl, h⟩
 clear h; intro a h
 refine dE0 2 rfl (by kernel_rfl) ?_
 refine i_call hF h rfl (rtext_ret _ c (by omega) _ (hB.at H (Nat.le_refl _))) rfl (by decide) ?_
 clear h; rintro _ w ⟨rfl, hb⟩ a h; replace H := H.call hb; clear hb
 refine dN0 (H.sub (by repeat (first | exact ln1 | exact ls1 | exact lr1 | apply lk1 | apply List.Sublist.cons | apply la1))) ?_
 apply dQ0 hF h 3 rfl rfl (by kernel_rfl) (by decide) NoP.np (fun _ => H.sub (by repeat (first | exact ln1 | exact ls1 | exact lr1 | apply lk1 | apply List.Sublist.cons | apply la1)))
 · intro w
   refine i_neS hF h rfl rfl rfl (show (!(Cd.text c == Cd.text c)) = false by simp) (by decide) ?_
   intro a h
   exact ⟨rfl, h⟩
 clear h; intro a h
 apply dQ0 hF h 4 rfl rfl (by kernel_rfl) (by decide) NoP.np (fun _ => H.sub (by repeat (first | exact ln1 | exact ls1 | exact lr1 | apply lk1 | apply List.Sublist.cons | apply la1)))
 · intro w
   refine sM0 hF h rfl rfl (by decide) ?_
   intro a h
   exact ⟨rfl, h⟩
 clear h; intro a h
 apply dQ0 hF h 5 rfl rfl (by kernel_rfl) (by decide) NoP.np (fun _ => H.sub (by repeat (first | exact ln1 | exact ls1 | exact lr1 | apply lk1 | apply List.Sublist.cons | apply la1)))
 · intro w
   first | (refine sK0 hF h rfl (by decide) ?_; intro a h) | (refine sM0 hF h rfl rfl (by decide) ?_; intro a h)
   exact ⟨rfl, h⟩
 clear h; intro a h
 refine dE0 6 rfl (by kernel_rfl) ?_
 first | (refine sK0 hF h rfl (by decide) ?_; clear h; intro a h) | (refine i_call hF h rfl (num_ret _ _) rfl (by decide) ?_; clear h; rintro _ w ⟨rfl, hb⟩ a h; replace H := H.call hb; clear hb)
 refine dN0 (H.sub (by repeat (first | exact ln1 | exact ls1 | exact lr1 | apply lk1 | apply List.Sublist.cons | apply la1))) ?_
 apply dQ0 hF h 7 rfl rfl (by kernel_rfl) (by decide) NoP.np (fun _ => H.sub (by repeat (first | exact ln1 | exact ls1 | exact lr1 | apply lk1 | apply List.Sublist.cons | apply la1)))
 · intro w
   first | (refine sK0 hF h rfl (by decide) ?_; intro a h) | ((first | (refine iC0 hF h rfl rfl rfl (i_neq_t (by omega)) (by decide) ?_) | (refine iC0 hF h rfl rfl rfl (i_neq_f (by omega)) (by decide) ?_)); intro a h)
   exact ⟨rfl, h⟩
 clear h; intro a h
 apply dQ0 hF h 8 rfl rfl (by kernel_rfl) (by decide) NoP.np (fun _ => H.sub (by repeat (first | exact ln1 | exact ls1 | exact lr1 | apply lk1 | apply List.Sublist.cons | apply la1)))
 · intro w
   refine s_pick hF h rfl rfl rfl (by decide) ?_
   intro a h
   exact ⟨rfl, h⟩
 clear h; intro a h
 apply dQ0 hF h 9 rfl rfl (by kernel_rfl) (by decide) NoP.np (fun _ => H.sub (by repeat (first | exact ln1 | exact ls1 | exact lr1 | apply lk1 | apply List.Sublist.cons | apply la1)))
 · intro w
   refine sM0 hF h rfl rfl (by decide) ?_
   intro a h
   exact ⟨rfl, h⟩
 clear h; intro a h
 apply dQ0 hF h 10 rfl rfl (by kernel_rfl) (by decide) NoP.np (fun _ => H.sub (by repeat (first | exact ln1 | exact ls1 | exact lr1 | apply lk1 | apply List.Sublist.cons | apply la1)))
 · intro w
   first | (refine sK0 hF h rfl (by decide) ?_; intro a h) | (refine sM0 hF h rfl rfl (by decide) ?_; intro a h)
   exact ⟨rfl, h⟩
 clear h; intro a h
 apply dQ0 hF h 11 rfl rfl (by kernel_rfl) (by decide) NoP.np (fun _ => H.sub (by repeat (first | exact ln1 | exact ls1 | exact lr1 | apply lk1 | apply List.Sublist.cons | apply la1)))
 · intro w
   first | (refine sK0 hF h rfl (by decide) ?_; intro a h) | ((first | (refine iC0 hF h rfl rfl rfl (i_neq_t (by omega)) (by decide) ?_) | (refine iC0 hF h rfl rfl rfl (i_neq_f (by omega)) (by decide) ?_)); intro a h)
   exact ⟨rfl, h⟩
 clear h; intro a h
 apply dQ0 hF h 12 rfl rfl (by kernel_rfl) (by decide) NoP.np (fun _ => H.sub (by repeat (first | exact ln1 | exact ls1 | exact lr1 | apply lk1 | apply List.Sublist.cons | apply la1)))
 · intro w
   refine s_pick hF h rfl rfl rfl (by decide) ?_
   intro a h
   exact ⟨rfl, h⟩
 clear h; intro a h
 apply dQ0 hF h 13 rfl rfl (by kernel_rfl) (by decide) NoP.np (fun _ => H.sub (by repeat (first | exact ln1 | exact ls1 | exact lr1 | apply lk1 | apply List.Sublist.cons | apply la1)))
 · intro w
   refine sM0 hF h rfl rfl (by decide) ?_
   intro a h
   exact ⟨rfl, h⟩
 clear h; intro a h
 apply dQ0 hF h 14 rfl rfl (by kernel_rfl) (by decide) NoP.np (fun _ => H.sub (by repeat (first | exact ln1 | exact ls1 | exact lr1 | apply lk1 | apply List.Sublist.cons | apply la1)))
 · intro w
   first | (refine sK0 hF h rfl (by decide) ?_; intro a h) | (refine sM0 hF h rfl rfl (by decide) ?_; intro a h)
   exact ⟨rfl, h⟩
 clear h; intro a h
 apply dP0 hF h 15 rfl rfl (by kernel_rfl) (by decide) NoP.np (by kernel_rfl) (H.sub (by repeat (first | exact ln1 | exact ls1 | exact lr1 | apply lk1 | apply List.Sublist.cons | apply la1)))
 · intro w H
   first | (refine sK0 hF h rfl (by decide) ?_; intro a h) | (refine i_strB hF h rfl rfl (h4 H) (by decide) ?_; intro a h)
   exact ⟨rfl, h⟩
 clear h; intro a h
 apply dQ0 hF h 16 rfl rfl (by kernel_rfl) (by decide) NoP.np (fun _ => H.sub (by repeat (first | exact ln1 | exact ls1 | exact lr1 | apply lk1 | apply List.Sublist.cons | apply la1)))
 · intro w
   first | (refine sK0 hF h rfl (by decide) ?_; intro a h) | (refine sM0 hF h rfl rfl (by decide) ?_; intro a h)
   exact ⟨rfl, h⟩
 clear h; intro a h
 apply dP0 hF h 17 rfl rfl (by kernel_rfl) (by decide) NoP.np (by kernel_rfl) (H.sub (by repeat (first | exact ln1 | exact ls1 | exact lr1 | apply lk1 | apply List.Sublist.cons | apply la1)))
 · intro w H
   first | (refine sK0 hF h rfl (by decide) ?_; intro a h) | (refine i_strB hF h rfl rfl (h6 H) (by decide) ?_; intro a h)
   exact ⟨rfl, h⟩
 clear h; intro a h
 apply dQ0 hF h 18 rfl rfl (by kernel_rfl) (by decide) NoP.np (fun _ => H.sub (by repeat (first | exact ln1 | exact ls1 | exact lr1 | apply lk1 | apply List.Sublist.cons | apply la1)))
 · intro w
   first | (refine sK0 hF h rfl (by decide) ?_; intro a h) | (refine i_neS hF h rfl rfl rfl (show (!(fill c == fill c)) = false by simp) (by decide) ?_; intro a h)
   exact ⟨rfl, h⟩
 clear h; intro a h
 apply dQ0 hF h 19 rfl rfl (by kernel_rfl) (by decide) NoP.np (fun _ => H.sub (by repeat (first | exact ln1 | exact ls1 | exact lr1 | apply lk1 | apply List.Sublist.cons | apply la1)))
 · intro w
   refine s_pick hF h rfl rfl rfl (by decide) ?_
   intro a h
   exact ⟨rfl, h⟩
 clear h; intro a h
 apply dQ0 hF h 20 rfl rfl (by kernel_rfl) (by decide) NoP.np (fun _ => H.sub (by repeat (first | exact ln1 | exact ls1 | exact lr1 | apply lk1 | apply List.Sublist.cons | apply la1)))
 · intro w
   refine sM0 hF h rfl rfl (by decide) ?_
   intro a h
   exact ⟨rfl, h⟩
 clear h; intro a h
 apply dQ0 hF h 21 rfl rfl (by kernel_rfl) (by decide) NoP.np (fun _ => H.sub (by repeat (first | exact ln1 | exact ls1 | exact lr1 | apply lk1 | apply List.Sublist.cons | apply la1)))
 · intro w
   first | (refine sK0 hF h rfl (by decide) ?_; intro a h) | (refine sM0 hF h rfl rfl (by decide) ?_; intro a h)
   exact ⟨rfl, h⟩
 clear h; intro a h
 apply dQ0 hF h 22 rfl rfl (by kernel_rfl) (by decide) NoP.np (fun _ => H.sub (by repeat (first | exact ln1 | exact ls1 | exact lr1 | apply lk1 | apply List.Sublist.cons | apply la1)))
 · intro w
   first | (refine sK0 hF h rfl (by decide) ?_; intro a h) | (refine i_len hF h rfl rfl (by decide) ?_; intro a h)
   exact ⟨rfl, h⟩
 clear h; intro a h
 apply dQ0 hF h 23 rfl rfl (by kernel_rfl) (by decide) NoP.np (fun _ => H.sub (by repeat (first | exact ln1 | exact ls1 | exact lr1 | apply lk1 | apply List.Sublist.cons | apply la1)))
 · intro w
   first | (refine sK0 hF h rfl (by decide) ?_; intro a h) | (refine sM0 hF h rfl rfl (by decide) ?_; intro a h)
   exact ⟨rfl, h⟩
 clear h; intro a h
 apply dQ0 hF h 24 rfl rfl (by kernel_rfl) (by decide) NoP.np (fun _ => H.sub (by repeat (first | exact ln1 | exact ls1 | exact lr1 | apply lk1 | apply List.Sublist.cons | apply la1)))
 · intro w
   first | (refine sK0 hF h rfl (by decide) ?_; intro a h) | (refine i_len hF h rfl rfl (by decide) ?_; intro a h)
   exact ⟨rfl, h⟩
 clear h; intro a h
 apply dQ0 hF h 25 rfl rfl (by kernel_rfl) (by decide) NoP.np (fun _ => H.sub (by repeat (first | exact ln1 | exact ls1 | exact lr1 | apply lk1 | apply List.Sublist.cons | apply la1)))
 · intro w
   first | (refine sK0 hF h rfl (by decide) ?_; intro a h) | ((first | (refine iC0 hF h rfl rfl rfl (i_lss_t (by omega)) (by decide) ?_) | (refine iC0 hF h rfl rfl rfl (i_lss_f (by omega)) (by decide) ?_)); intro a h)
   exact ⟨rfl, h⟩
 clear h; intro a h
 apply dQ0 hF h 26 rfl rfl (by kernel_rfl) (by decide) NoP.np (fun _ => H.sub (by repeat (first | exact ln1 | exact ls1 | exact lr1 | apply lk1 | apply List.Sublist.cons | apply la1)))
 · intro w
   refine s_pick hF h rfl rfl rfl (by decide) ?_
   intro a h
   exact ⟨rfl, h⟩
 clear h; intro a h
 apply dQ0 hF h 27 rfl rfl (by kernel_rfl) (by decide) NoP.np (fun _ => H.sub (by repeat (first | exact ln1 | exact ls1 | exact lr1 | apply lk1 | apply List.Sublist.cons | apply la1)))
 · intro w
   refine sM0 hF h rfl rfl (by decide) ?_
   intro a h
   exact ⟨rfl, h⟩
 clear h; intro a h
 apply dQ0 hF h 28 rfl rfl (by kernel_rfl) (by decide) NoP.np (fun _ => H.sub (by repeat (first | exact ln1 | exact ls1 | exact lr1 | apply lk1 | apply List.Sublist.cons | apply la1)))
 · intro w
   first | (refine sK0 hF h rfl (by decide) ?_; intro a h) | (refine sM0 hF h rfl rfl (by decide) ?_; intro a h)
   exact ⟨rfl, h⟩
 clear h; intro a h
 apply dQ0 hF h 29 rfl rfl (by kernel_rfl) (by decide) NoP.np (fun _ => H.sub (by repeat (first | exact ln1 | exact ls1 | exact lr1 | apply lk1 | apply List.Sublist.cons | apply la1)))
 · intro w
   first | (refine sK0 hF h rfl (by decide) ?_; intro a h) | (refine i_len hF h rfl rfl (by decide) ?_; intro a h)
   exact ⟨rfl, h⟩
 clear h; intro a h
 apply dQ0 hF h 30 rfl rfl (by kernel_rfl) (by decide) NoP.np (fun _ => H.sub (by repeat (first | exact ln1 | exact ls1 | exact lr1 | apply lk1 | apply List.Sublist.cons | apply la1)))
 · intro w
   first | (refine sK0 hF h rfl (by decide) ?_; intro a h) | (refine sM0 hF h rfl rfl (by decide) ?_; intro a h)
   exact ⟨rfl, h⟩
 clear h; intro a h
 apply dQ0 hF h 31 rfl rfl (by kernel_rfl) (by decide) NoP.np (fun _ => H.sub (by repeat (first | exact ln1 | exact ls1 | exact lr1 | apply lk1 | apply List.Sublist.cons | apply la1)))
 · intro w
   first | (refine sK0 hF h rfl (by decide) ?_; intro a h) | (refine i_len hF h rfl rfl (by decide) ?_; intro a h)
   exact ⟨rfl, h⟩
 clear h; intro a h
 apply dQ0 hF h 32 rfl rfl (by kernel_rfl) (by decide) NoP.np (fun _ => H.sub (by repeat (first | exact ln1 | exact ls1 | exact lr1 | apply lk1 | apply List.Sublist.cons | apply la1)))
 · intro w
   first | (refine sK0 hF h rfl (by decide) ?_; intro a h) | (refine i_ar64 hF h rfl rfl rfl rfl (by omega) (by omega) (by decide) ?_; intro a h)
   exact ⟨rfl, h⟩
 clear h; intro a h
 apply dQ0 hF h 33 rfl rfl (by kernel_rfl) (by decide) NoP.np (fun _ => H.sub (by repeat (first | exact ln1 | exact ls1 | exact lr1 | apply lk1 | apply List.Sublist.cons | apply la1)))
 · intro w
   first | (refine sK0 hF h rfl (by decide) ?_; intro a h) | ((first | (refine iC0 hF h rfl rfl rfl (i_gtr_t (by omega)) (by decide) ?_) | (refine iC0 hF h rfl rfl rfl (i_gtr_f (by omega)) (by decide) ?_)); intro a h)
   exact ⟨rfl, h⟩
 clear h; intro a h
 apply dQ0 hF h 34 rfl rfl (by kernel_rfl) (by decide) NoP.np (fun _ => H.sub (by repeat (first | exact ln1 | exact ls1 | exact lr1 | apply lk1 | apply List.Sublist.cons | apply la1)))
 · intro w
   refine s_pick hF h rfl rfl rfl (by decide) ?_
   intro a h
   exact ⟨rfl, h⟩
 clear h; intro a h
 apply dQ0 hF h 35 rfl rfl (by kernel_rfl) (by decide) NoP.np (fun _ => H.sub (by repeat (first | exact ln1 | exact ls1 | exact lr1 | apply lk1 | apply List.Sublist.cons | apply la1)))
 · intro w
   refine sM0 hF h rfl rfl (by decide) ?_
   intro a h
   exact ⟨rfl, h⟩
 clear h; intro a h
 apply dQ0 hF h 36 rfl rfl (by kernel_rfl) (by decide) NoP.np (fun _ => H.sub (by repeat (first | exact ln1 | exact ls1 | exact lr1 | apply lk1 | apply List.Sublist.cons | apply la1)))
 · intro w
   first | (refine sK0 hF h rfl (by decide) ?_; intro a h) | (refine sM0 hF h rfl rfl (by decide) ?_; intro a h)
   exact ⟨rfl, h⟩
 clear h; intro a h
 apply dQ0 hF h 37 rfl rfl (by kernel_rfl) (by decide) NoP.np (fun _ => H.sub (by repeat (first | exact ln1 | exact ls1 | exact lr1 | apply lk1 | apply List.Sublist.cons | apply la1)))
 · intro w
   first | (refine sK0 hF h rfl (by decide) ?_; intro a h) | (refine sM0 hF h rfl rfl (by decide) ?_; intro a h)
   exact ⟨rfl, h⟩
 clear h; intro a h
 apply dQ0 hF h 38 rfl rfl (by kernel_rfl) (by decide) NoP.np (fun _ => H.sub (by repeat (first | exact ln1 | exact ls1 | exact lr1 | apply lk1 | apply List.Sublist.cons | apply la1)))
 · intro w
   first | (refine sK0 hF h rfl (by decide) ?_; intro a h) | (refine i_len hF h rfl rfl (by decide) ?_; intro a h)
   exact ⟨rfl, h⟩
 clear h; intro a h
 apply dQ0 hF h 39 rfl rfl (by kernel_rfl) (by decide) NoP.np (fun _ => H.sub (by repeat (first | exact ln1 | exact ls1 | exact lr1 | apply lk1 | apply List.Sublist.cons | apply la1)))
 · intro w
   first | (refine sK0 hF h rfl (by decide) ?_; intro a h) | (refine i_sliceTo hF h rfl rfl rfl (by omega) (by decide) ?_; intro a h)
   exact ⟨rfl, h⟩
 clear h; intro a h
 apply dP0 hF h 40 rfl rfl (by kernel_rfl) (by decide) NoP.np (by kernel_rfl) (H.sub (by repeat (first | exact ln1 | exact ls1 | exact lr1 | apply lk1 | apply List.Sublist.cons | apply la1)))
 · intro w H
   first | (refine sK0 hF h rfl (by decide) ?_; intro a h) | (refine i_strB hF h rfl rfl (hpre (h4 H)) (by decide) ?_; intro a h)
   exact ⟨rfl, h⟩
 clear h; intro a h
 apply dQ0 hF h 41 rfl rfl (by kernel_rfl) (by decide) NoP.np (fun _ => H.sub (by repeat (first | exact ln1 | exact ls1 | exact lr1 | apply lk1 | apply List.Sublist.cons | apply la1)))
 · intro w
   first | (refine sK0 hF h rfl (by decide) ?_; intro a h) | (refine sM0 hF h rfl rfl (by decide) ?_; intro a h)
   exact ⟨rfl, h⟩
 clear h; intro a h
 apply dP0 hF h 42 rfl rfl (by kernel_rfl) (by decide) NoP.np (by kernel_rfl) (H.sub (by repeat (first | exact ln1 | exact ls1 | exact lr1 | apply lk1 | apply List.Sublist.cons | apply la1)))
 · intro w H
   first | (refine sK0 hF h rfl (by decide) ?_; intro a h) | (refine i_strB hF h rfl rfl (hB.at H (Nat.le_refl _)) (by decide) ?_; intro a h)
   exact ⟨rfl, h⟩
 clear h; intro a h
 apply dQ0 hF h 43 rfl rfl (by kernel_rfl) (by decide) NoP.np (fun _ => H.sub (by repeat (first | exact ln1 | exact ls1 | exact lr1 | apply lk1 | apply List.Sublist.cons | apply la1)))
 · intro w
   first | (refine sK0 hF h rfl (by decide) ?_; intro a h) | (refine i_neS hF h rfl rfl rfl (show (!(c == c)) = false by simp) (by decide) ?_; intro a h)
   exact ⟨rfl, h⟩
 clear h; intro a h
 apply dQ0 hF h 44 rfl rfl (by kernel_rfl) (by decide) NoP.np (fun _ => H.sub (by repeat (first | exact ln1 | exact ls1 | exact lr1 | apply lk1 | apply List.Sublist.cons | apply la1)))
 · intro w
   refine s_pick hF h rfl rfl rfl (by decide) ?_
   intro a h
   exact ⟨rfl, h⟩
 clear h; intro a h
 first | refine d_endThen (by kernel_rfl) ?_ | refine d_endQ (by kernel_rfl) ?_
 repeat refine cS0 ?_
 refine c_condF h rfl ?_
 first | refine cKt0 ?_ | refine cK0 ?_
 repeat refine cS0 ?_
 refine cR0 ?_
 refine sM0 hF h rfl rfl (by decide) ?_
 clear h; intro a h
 refine i_len hF h rfl rfl (by decide) ?_
 clear h; intro a h
 refine sA0 hF h rfl rfl (by decide) ?_
 clear h; intro a h
 first | refine cEt0 ?_ | refine cE0 ?_
 repeat refine cS0 ?_
 refine c_block ?_
 refine c_loopN (fun q a' w' => ∃ i, q = (fill c).length - i ∧ c.length ≤ i ∧ i ≤ (fill c).length ∧ Fr 90 [] [(8, int (i : Nat)), (4, .slice p4 (fill c).length cap4), (3, str (Cd.text c))] a' ∧ St w0.heap.size w0 (R6 ++ (R4 ++ [])) w') ((fill c).length - c.length) ⟨c.length, rfl, Nat.le_refl _, by omega, (h.sub (by repeat (first | exact trivial | refine ⟨rfl, ?_⟩))), H⟩ ?_
 clear h H
 rintro q a w ⟨i, rfl, hi1, hi2, h, H⟩
 by_cases hi3 : i < (fill c).length
 · have hx : (fill c)[i]? = some 0 := by
    rw [hfs, List.getElem?_append_right hi1, List.getElem?_replicate, if_pos (by omega)]
   have e0 : (0 : UInt8).toNat = 0 := rfl
   repeat refine cS0 ?_
   refine cR0 ?_
   refine sM0 hF h rfl rfl (by decide) ?_
   clear h; intro a h
   refine sM0 hF h rfl rfl (by decide) ?_
   clear h; intro a h
   refine i_len hF h rfl rfl (by decide) ?_
   clear h; intro a h
   (first | (refine iC0 hF h rfl rfl rfl (i_lss_t (by omega)) (by decide) ?_) | (refine iC0 hF h rfl rfl rfl (i_lss_f (by omega)) (by decide) ?_))
   clear h; intro a h
   first | refine cEt0 ?_ | refine cE0 ?_
   repeat refine cS0 ?_
   refine c_condT h rfl ?_
   first | refine cKt0 ?_ | refine cK0 ?_
   repeat refine cS0 ?_
   refine c_block ?_
   repeat refine cS0 ?_
   refine cR0 ?_
   refine sM0 hF h rfl rfl (by decide) ?_
   clear h; intro a h
   refine sM0 hF h rfl rfl (by decide) ?_
   clear h; intro a h
   refine i_idxB hF h rfl rfl (h4 H) rfl hx (by decide) ?_
   clear h; intro be bo a hbe h
   refine i_loadW hF h rfl rfl hbe (by decide) ?_
   clear h; intro a h
   (first | (refine iC0 hF h rfl rfl rfl (i_neq_t (by omega)) (by decide) ?_) | (refine iC0 hF h rfl rfl rfl (i_neq_f (by omega)) (by decide) ?_))
   clear h; intro a h
   first | refine cEt0 ?_ | refine cE0 ?_
   repeat refine cS0 ?_
   refine c_condF h rfl ?_
   refine cK0 ?_
   with_reducible repeat (first | refine xa0 ?_ | refine xb0 ?_ | refine xc0 ?_ | refine xd0 ?_ | refine xe0 (by decide) ?_ | refine xf0 ?_ | refine xg0 ?_ | refine xh0 ?_ | refine xi0 ?_)
   repeat refine cS0 ?_
   refine cR0 ?_
   refine sM0 hF h rfl rfl (by decide) ?_
   clear h; intro a h
   refine i_ar64 hF h rfl rfl rfl rfl (by omega) (by omega) (by decide) ?_
   clear h; intro a h
   refine sA0 hF h rfl rfl (by decide) ?_
   clear h; intro a h
   refine cE0 ?_
   exact ⟨(fill c).length - (i + 1), by omega, i + 1, rfl, by omega, by omega, (h.sub (by repeat (first | exact trivial | refine ⟨rfl, ?_⟩))), H⟩
 · repeat refine cS0 ?_
   refine cR0 ?_
   refine sM0 hF h rfl rfl (by decide) ?_
   clear h; intro a h
   refine sM0 hF h rfl rfl (by decide) ?_
   clear h; intro a h
   refine i_len hF h rfl rfl (by decide) ?_
   clear h; intro a h
   (first | (refine iC0 hF h rfl rfl rfl (i_lss_t (by omega)) (by decide) ?_) | (refine iC0 hF h rfl rfl rfl (i_lss_f (by omega)) (by decide) ?_))
   clear h; intro a h
   first | refine cEt0 ?_ | refine cE0 ?_
   repeat refine cS0 ?_
   refine c_condF h rfl ?_
   refine c_exit ?_
   with_reducible repeat (first | refine xa0 ?_ | refine xb0 ?_ | refine xc0 ?_ | refine xd0 ?_ | refine xe0 (by decide) ?_ | refine xf0 ?_ | refine xg0 ?_ | refine xh0 ?_ | refine xi0 ?_)
   repeat refine cS0 ?_
   refine cR0 ?_
   refine sM0 hF h rfl rfl (by decide) ?_
   clear h; intro a h
   refine i_call hF h rfl (text_ret _ (fill c) (by omega) _ (h4 H)) rfl (by decide) ?_
   clear h; rintro _ w ⟨rfl, hb⟩ a h; rw [htf] at h; replace H := H.call hb; clear hb
   refine sM0 hF h rfl rfl (by decide) ?_
   clear h; intro a h
   refine i_eqS hF h rfl rfl rfl (show (Cd.text c == Cd.text c) = true from beq_iff_eq.2 rfl) (by decide) ?_
   clear h; intro a h
   refine sM0 hF h rfl rfl (by decide) ?_
   clear h; intro a h
   first | (refine sK0 hF h rfl (by decide) ?_; clear h; intro a h) | (refine i_call hF h rfl (works_ret _) rfl (by decide) ?_; clear h; rintro _ w ⟨rfl, hb⟩ a h; replace H := H.call hb; clear hb)
   refine s_pick hF h rfl rfl rfl (by decide) ?_
   clear h; intro a h
   refine sA0 hF h rfl rfl (by decide) ?_
   clear h; intro a h
   first | refine cEt0 ?_ | refine cE0 ?_
   refine c_ret ?_
   with_reducible repeat (first | refine xa0 ?_ | refine xb0 ?_ | refine xc0 ?_ | refine xd0 ?_ | refine xe0 (by decide) ?_ | refine xf0 ?_ | refine xg0 ?_ | refine xh0 ?_ | refine xi0 ?_)
   refine leave (fn := Tryz.f4) h Tryz.results4 (.tmp rfl (.nil)) ?_
   exact ⟨_, rfl, rfl, H.done⟩
end Go.Proofs.YtjlmpghcjgbfjaaGreatDoor.Cw
namespace Go.Proofs.YtjlmpghcjgbfjaaGreatDoor.Ex
open Go Go.RowKit
def mdel {α : Type} [DecidableEq α] (M : Ents α) (k : α) : Ents α := M.filter fun x => decide (x.1 ≠ k)
theorem mget_del {α : Type} [DecidableEq α] (M : Ents α) (k k' : α) : mget (mdel M k) k' = if k' = k then none else mget M k' := by
 unfold mget mdel
 induction M with
 | nil => simp
 | cons x M ih =>
  rw [List.filter_cons]
  by_cases e : x.1 = k
  · rw [if_neg (by simpa using e), ih, List.find?_cons]
    by_cases e2 : k' = k
    · rw [if_pos e2, if_pos e2]
    · rw [if_neg e2, if_neg e2]
      have : ¬ x.1 = k' := fun h => e2 (h.symm.trans e)
      simp only [this, decide_false]
  · rw [if_pos (by simpa using e), List.find?_cons, List.find?_cons]
    by_cases e2 : x.1 = k'
    · have : ¬ k' = k := fun h => e (e2.trans h)
      simp only [e2, decide_true, if_neg this]
    · simp only [e2, decide_false]; exact ih
theorem MapOk.del {α : Type} [DecidableEq α] {M : Ents α} {c : Nat} (h : MapOk M c) (k : α) : MapOk (mdel M k) c :=
 ⟨fun x hx => h.old x (List.mem_filter.1 hx).1, List.Sublist.nodup ((List.filter_sublist).map _) h.born, List.Sublist.nodup ((List.filter_sublist).map _) h.key⟩
theorem erase_del {α : Type} [DecidableEq α] (k : α) : ∀ (M : Ents α) (i j : Nat) (v : Value), (M.map (·.1)).Nodup → kfind k M i = some (j, v) → M.eraseIdx (j - i) = mdel M k
 | [], _, _, _, _, h => by cases h
 | x :: r, i, j, v, hn, h => by
  rw [List.map_cons, List.nodup_cons] at hn
  rw [kfind] at h
  unfold mdel
  rw [List.filter_cons]
  by_cases e : k = x.1
  · rw [if_pos e] at h; cases h
    rw [if_neg (by simpa using e.symm), Nat.sub_self, List.eraseIdx_cons_zero]
    symm
    rw [List.filter_eq_self]
    intro y hy
    have : y.1 ≠ k := fun e' => hn.1 (List.mem_map.2 ⟨y, hy, by rw [e', e]⟩)
    simpa using this
  · rw [if_neg e] at h
    have hij := (kfind_at k r (i + 1) j v h).1
    have ih := erase_del k r (i + 1) j v hn.2 h
    rw [if_pos (by simpa using fun e' => e e'.symm), show j - i = (j - (i + 1)) + 1 by omega, List.eraseIdx_cons_succ, ih]
    rfl
theorem map_erase {α β : Type} (f : α → β) : ∀ (l : List α) (i : Nat), (l.map f).eraseIdx i = (l.eraseIdx i).map f
 | [], _ => by simp
 | _ :: _, 0 => by simp
 | x :: l, i + 1 => by simp [map_erase f l i]
theorem kfind_none_del {α : Type} [DecidableEq α] (k : α) : ∀ (M : Ents α) (i : Nat), kfind k M i = none → mdel M k = M
 | [], _, _ => rfl
 | x :: r, i, h => by
  rw [kfind] at h
  by_cases e : k = x.1
  · rw [if_pos e] at h; cases h
  · rw [if_neg e] at h
    have ih := kfind_none_del k r (i + 1) h
    unfold mdel at ih ⊢
    rw [List.filter_cons, if_pos (by simpa using fun e' => e e'.symm), ih]
section
variable {F : Fence} {n : Nat} {P : Program} {ops : Array Oper} {Q : Exit → Act → World → Prop} {a : Act} {w : World} {rest : List Oper}
variable {N : Nat} {ds : List Deferred} {T : List (Nat × Value)} {n0 : Nat} {w0 : World} {L L' : List (Nat × Obj)}
variable {ty : TypeId} {ps : String} {af : Array Edge} {g : Option (Nat × Bool)} {d : Nat}
theorem stepN (hF : Fd F) (h : Fr N ds T a) (hg : guardOf T ops g = some true) {op : Op} (hnd : ∀ c, op ≠ .defer c) {v : Value} {w' : World}
 (hr : (execOp a.eval ⟨none, op, ty, ps, af, g⟩).run P w = .ok (.value v) w') (K : wpListIn F n P ops Q rest a w') : wpListIn F n P ops Q (⟨none, op, ty, ps, af, g⟩ :: rest) a w := by
 rw [wpListIn, if_pos (wanted_of h hg)]
 refine ⟨fun f _ => hF.fn f, ?_⟩
 rw [Oper.semAt_plain F _ _ hnd, hr]
 exact K
theorem i_mapDel {α : Type} [DecidableEq α] {enc : α → Value} {M : Ents α} {c : Nat} {K : TypeId} (hF : Fd F) (h : Fr N ds T a) (H : St n0 w0 L w) (hg : guardOf T ops g = some true) {t u e : TypeId} [ht : MapTy P t K e] [hk : KeyEnc P K enc] {x y : Operand} {b : Nat} {k : α} (hM : MapOk M c)
 (hx : ev T x = some (.map (some b))) (hy : ev T y = some (enc k)) (hu : Upd b (mapObj enc M c) (mapObj enc (mdel M k) c) L L')
 (Kt : ∀ w', St n0 w0 L' w' → wpListIn F n P ops Q rest a w') : wpListIn F n P ops Q (⟨none, .call { callee := .builtin .delete, args := #[x, y], argTypes := #[t, u] }, ty, ps, af, g⟩ :: rest) a w := by
 have hb := H.mem hu.mem.1
 have hck := fun empty => hk.check empty 9999 k w
 refine stepN hF h hg (by simp) (v := .tuple #[]) (w' := { w with heap := w.heap.setIfInBounds b (mapObj enc (mdel M k) c) }) ?_ (Kt _ (putObj_turn H hu))
 have hrun : (Builtin.delete_ #[t, u] ty #[.map (some b), enc k]).run P w = .ok (.tuple #[]) { w with heap := w.heap.setIfInBounds b (mapObj enc (mdel M k) c) } := by
  have ho : (getObj b).run P w = .ok (mapObj enc M c) w := getObj_map hb
  have hs : ∀ es cl, (setObj b (.map es cl)).run P w = .ok () { w with heap := w.heap.setIfInBounds b (.map es cl) } := fun es cl => by simp only [setObj, Sem.run, hb, mapObj]
  cases hf : kfind k M 0 with
  | none =>
   have hd := kfind_none_del k M 0 hf
   rw [hd]
   simp [Builtin.delete_, run_underlying ht.out, ho, mapObj, hck, run_findKey, hf, hs]
  | some p =>
   obtain ⟨j, v⟩ := p
   have hd := erase_del k M 0 j v hM.key hf
   rw [Nat.sub_zero] at hd
   rw [← hd]
   have hj : j < M.length := by
    obtain ⟨_, y, hy, _⟩ := kfind_at k M 0 j v hf
    exact (List.getElem?_eq_some_iff.1 hy).1
   simp [Builtin.delete_, run_underlying ht.out, ho, mapObj, hck, run_findKey, hf, hs, hj, Array.eraseIdxIfInBounds, map_erase]
 simp [execOp, resolve, invoke, builtin, h.eval hx, h.eval hy, hrun]
end
end Go.Proofs.YtjlmpghcjgbfjaaGreatDoor.Ex
namespace Go.Proofs.YtjlmpghcjgbfjaaGreatDoor.Cw
open Go Go.RowKit Go.Proofs Ex Cd
set_option maxRecDepth 100000
/-- where the next op lies, behind these -/
def endOf (c : List UInt8) (k0 : Nat) (pre : List Nat) : Nat := match pre.getLast? with
 | none => k0
 | some k => k + 1 + sz (c.getD k 0).toNat
theorem endOf_cons (c : List UInt8) (k0 k : Nat) (pre : List Nat) : endOf c k0 (k :: pre) = endOf c (k + 1 + sz (c.getD k 0).toNat) pre := by
 unfold endOf
 rw [List.getLast?_cons]
 cases pre.getLast? <;> rfl
theorem endOf_snoc (c : List UInt8) (k0 k : Nat) (pre : List Nat) : endOf c k0 (pre ++ [k]) = k + 1 + sz (c.getD k 0).toNat := by
 unfold endOf; simp
theorem ops_next : ∀ (m k0 : Nat) (c : List UInt8) (pre : List Nat) (k : Nat), pre ++ [k] <+: opsN m c k0 → k = endOf c k0 pre
 | 0, _, _, pre, k, h => by
  have := h.length_le
  simp [opsN] at this
 | m + 1, k0, c, pre, k, h => by
  rw [opsN] at h
  split at h
  · cases pre with
    | nil =>
     obtain ⟨t, ht⟩ := h
     simp at ht
     exact ht.1
    | cons p pre =>
     obtain ⟨t, ht⟩ := h
     simp only [List.cons_append, List.cons.injEq] at ht
     obtain ⟨rfl, ht⟩ := ht
     rw [endOf_cons]
     exact ops_next m _ c pre k ⟨t, by simpa using ht⟩
  · have := h.length_le
    simp at this
theorem ops_end : ∀ (m k0 : Nat) (c : List UInt8), c.length ≤ k0 + m → c.length ≤ endOf c k0 (opsN m c k0)
 | 0, k0, c, h => by simpa [opsN, endOf] using h
 | m + 1, k0, c, h => by
  rw [opsN]
  split
  · rw [endOf_cons]
    exact ops_end m _ c (by omega)
  · simp [endOf]; omega
theorem ops_ge : ∀ (m k0 : Nat) (c : List UInt8) (x : Nat), x ∈ opsN m c k0 → k0 ≤ x
 | 0, _, _, _, h => by cases h
 | m + 1, k0, c, x, h => by
  rw [opsN] at h
  split at h
  · rcases List.mem_cons.1 h with rfl | h
    · exact Nat.le_refl _
    · have := ops_ge m _ c x h; omega
  · cases h
theorem ops_nodup : ∀ (m k0 : Nat) (c : List UInt8), (opsN m c k0).Nodup
 | 0, _, _ => by simp [opsN]
 | m + 1, k0, c => by
  rw [opsN]
  split
  · rw [List.nodup_cons]
    exact ⟨fun h => by have := ops_ge m _ c _ h; omega, ops_nodup m _ c⟩
  · simp
theorem marks_nodup (c : List UInt8) : (marks c).Nodup := List.Sublist.nodup List.filter_sublist (ops_nodup _ _ _)
theorem endOf_le (c : List UInt8) (h : c.length ≤ 300) : endOf c 0 (ops c) ≤ 1000 := by
 unfold endOf
 cases hl : (ops c).getLast? with
 | none => simp
 | some k =>
  have hk := ops_lt c.length 0 c k (List.mem_of_getLast? hl)
  have := sz_le (c.getD k 0).toNat
  dsimp only; omega
theorem zero3 : ∀ z : Value, zeroOf Tryz.prog 3 = some z → z = int 0 := by
 intro z hz
 have : zeroOf Tryz.prog 3 = some (int 0) := by kernel_rfl
 rw [this] at hz
 cases hz
 rfl
/-- the marks that are still to come -/
def Left (c : List UInt8) (pre : List Nat) (M : Ents Int) : Prop := (∀ k : Nat, mget M (k : Int) = if k ∈ marks c ∧ ¬ k ∈ pre then some (int 1) else none) ∧ ∀ x ∈ M, ∃ k : Nat, x.1 = k
theorem Left.more {c : List UInt8} {pre : List Nat} {M : Ents Int} (h : Left c pre M) (k : Nat) : Left c (pre ++ [k]) (mdel M (k : Int)) := by
 refine ⟨fun j => ?_, fun x hx => h.2 x (List.mem_filter.1 hx).1⟩
 rw [mget_del, h.1]
 by_cases e : j = k
 · subst e; simp
 · have : ¬ ((j : Int) = (k : Int)) := by omega
   rw [if_neg this]
   simp [e]
theorem Left.none {c : List UInt8} {M : Ents Int} {cn : Nat} (hM : MapOk M cn) (h : Left c (ops c) M) : M = [] := by
 cases M with
 | nil => rfl
 | cons x M =>
  obtain ⟨k, hk⟩ := h.2 x (by simp)
  have h1 := mget_mem hM.key (show x ∈ x :: M by simp)
  rw [hk, h.1 k, if_neg (fun hh => hh.2 (List.mem_filter.1 hh.1).1)] at h1
  cases h1
theorem holds_law (v : Value) (c : List UInt8) (w0 : World) (hB : BS w0 v c) : Rets Tryz.prog 6 [v] w0 fun u w' => u = .bool true ∧ Below w0.heap.size w0 w' := by
 refine enterM Tryz.func6 rfl (Nat.le_of_ble_eq_true rfl) ?_
 intro a h; rw [Tryz.ntmps6] at h
 have hF := Fd.wide; have H := St.begin w0
 repeat refine cS0 ?_
 refine cR0 ?_
 refine i_alloc hF h H rfl (by decide) ?_
 clear h H; intro a w b2 _ h H
 first | refine cEt0 ?_ | refine cE0 ?_
 by_cases hl : 300 < c.length
 · repeat refine cS0 ?_
   refine cR0 ?_
   refine sM0 hF h rfl rfl (by decide) ?_
   clear h; intro a h
   refine i_lenB hF h rfl rfl (hB.at H (Nat.le_refl _)) (by decide) ?_
   clear h; intro a h
   (first | (refine iC0 hF h rfl rfl rfl (i_gtr_t (by omega)) (by decide) ?_) | (refine iC0 hF h rfl rfl rfl (i_gtr_f (by omega)) (by decide) ?_))
   clear h; intro a h
   first | refine cEt0 ?_ | refine cE0 ?_
   repeat refine cS0 ?_
   refine c_condT h rfl ?_
   repeat refine cS0 ?_
   refine cR0 ?_
   refine i_call hF h rfl (works_ret _) rfl (by decide) ?_
   clear h; rintro _ w ⟨rfl, hb⟩ a h; replace H := H.call hb; clear hb
   refine jS0 hF h H rfl rfl rfl rfl (by repeat (first | exact Upd.here | apply Upd.there | apply Upd.app)) (by repeat (first | exact SetAt.zero | apply SetAt.succ)) ?_
   clear H; intro w H
   first | refine cEt0 ?_ | refine cE0 ?_
   refine c_ret ?_
   with_reducible repeat (first | refine xa0 ?_ | refine xb0 ?_ | refine xc0 ?_ | refine xd0 ?_ | refine xe0 (by decide) ?_ | refine xf0 ?_ | refine xg0 ?_ | refine xh0 ?_ | refine xi0 ?_)
   refine leaveM (Ds := []) (L := [(b2, .cells [.bool true].toArray 4 (0, 0))]) (fn := Tryz.f6) Tryz.results6 h H (fun w' H' => .own rfl H' (by repeat (first | exact mh1 | apply mt1 | apply ma1)) rfl .nil) (fun w' H' => ⟨_, rfl, rfl, H'.done⟩)
 have hmn := marks_nodup c
 repeat refine cS0 ?_
 refine cR0 ?_
 refine sM0 hF h rfl rfl (by decide) ?_
 clear h; intro a h
 refine i_lenB hF h rfl rfl (hB.at H (Nat.le_refl _)) (by decide) ?_
 clear h; intro a h
 (first | (refine iC0 hF h rfl rfl rfl (i_gtr_t (by omega)) (by decide) ?_) | (refine iC0 hF h rfl rfl rfl (i_gtr_f (by omega)) (by decide) ?_))
 clear h; intro a h
 first | refine cEt0 ?_ | refine cE0 ?_
 repeat refine cS0 ?_
 refine c_condF h rfl ?_
 first | refine cKt0 ?_ | refine cK0 ?_
 repeat refine cS0 ?_
 refine cR0 ?_
 refine i_alloc hF h H rfl (by decide) ?_
 clear h H; intro a w b3 _ h H
 refine jS0 hF h H rfl rfl rfl rfl (by repeat (first | exact Upd.here | apply Upd.there | apply Upd.app)) (by repeat (first | exact SetAt.zero | apply SetAt.succ)) ?_
 clear H; intro w H
 first | refine cEt0 ?_ | refine cE0 ?_
 repeat refine cS0 ?_
 refine cR0 ?_
 refine i_makeMap (α := Int) (enc := Value.int .i64) hF h H rfl (by decide) ?_
 clear h H; intro a w b16 _ h H
 refine i_alloc hF h H rfl (by decide) ?_
 clear h H; intro a w b4 _ h H
 refine jS0 hF h H rfl rfl rfl rfl (by repeat (first | exact Upd.here | apply Upd.there | apply Upd.app)) (by repeat (first | exact SetAt.zero | apply SetAt.succ)) ?_
 clear H; intro w H
 first | refine cEt0 ?_ | refine cE0 ?_
 repeat refine cS0 ?_
 refine cR0 ?_
 refine sM0 hF h rfl rfl (by decide) ?_
 clear h; intro a h
 refine i_call hF h rfl (marks_ret _ c (by omega) _ (hB.at H (Nat.le_refl _))) rfl (by decide) ?_
 clear h; rintro v5 w hg a h; obtain ⟨R5, hr5, H2⟩ := H.row hg; replace H := H2; clear H2 hg
 refine sA0 hF h rfl rfl (by decide) ?_
 clear h; intro a h
 first | refine cEt0 ?_ | refine cE0 ?_
 obtain ⟨p5, cap5, rfl, hcap5⟩ := GivesRow_slice hr5
 repeat refine cS0 ?_
 refine cR0 ?_
 refine sA0 hF h rfl rfl (by decide) ?_
 clear h; intro a h
 first | refine cEt0 ?_ | refine cE0 ?_
 have hml : (marks c).length ≤ 300 := by
  have h1 := List.length_filter_le (fun k => (c.getD k 0) == 91) (ops c)
  have h2 := ops_length c.length 0 c
  unfold Cd.marks ops at *
  omega
 repeat refine cS0 ?_
 refine c_join (fun a' w' => ∃ M cn, MapOk M cn ∧ Left c [] M ∧ Fr 75 [] [(4, ptr b4 0), (3, ptr b3 0), (2, ptr b2 0), (0, v)] a' ∧ St w0.heap.size w0 [(b4, .cells [.map (some b16)].toArray 39 (0, 0)), (b16, mapObj (Value.int .i64) M cn), (b3, .cells [int 0].toArray 3 (0, 0)), (b2, .cells [.bool false].toArray 4 (0, 0))] w') ?_ ?_
 · refine c_block ?_
   refine c_loopN (fun q a' w' => ∃ (i : Nat) (M : Ents Int), q = (marks c).length - i ∧ i ≤ (marks c).length ∧ MapOk M i ∧ (∀ k : Nat, mget M (k : Int) = if k ∈ (marks c).take i then some (int 1) else none) ∧ (∀ x ∈ M, ∃ k : Nat, x.1 = k) ∧ Fr 75 [] [(6, int (i : Nat)), (5, .slice p5 (marks c).length cap5), (4, ptr b4 0), (3, ptr b3 0), (2, ptr b2 0), (0, v)] a' ∧ St w0.heap.size w0 (R5 ++ [(b4, .cells [.map (some b16)].toArray 39 (0, 0)), (b16, mapObj (Value.int .i64) M i), (b3, .cells [int 0].toArray 3 (0, 0)), (b2, .cells [.bool false].toArray 4 (0, 0))]) w') (marks c).length
    ⟨0, [], rfl, by omega, MapOk.nil, fun k => by simp [mget], by simp, (h.sub (by repeat (first | exact trivial | refine ⟨rfl, ?_⟩))), by
     refine H.sub ?_
     exact .refl _⟩ ?_
   clear h H
   rintro q a w ⟨i, M, rfl, hi, hM, hget, hnat, h, H⟩
   by_cases hi2 : i < (marks c).length
   · repeat refine cS0 ?_
     refine cR0 ?_
     refine sM0 hF h rfl rfl (by decide) ?_
     clear h; intro a h
     refine sM0 hF h rfl rfl (by decide) ?_
     clear h; intro a h
     refine i_len hF h rfl rfl (by decide) ?_
     clear h; intro a h
     (first | (refine iC0 hF h rfl rfl rfl (i_lss_t (by omega)) (by decide) ?_) | (refine iC0 hF h rfl rfl rfl (i_lss_f (by omega)) (by decide) ?_))
     clear h; intro a h
     first | refine cEt0 ?_ | refine cE0 ?_
     repeat refine cS0 ?_
     refine c_condT h rfl ?_
     first | refine cKt0 ?_ | refine cK0 ?_
     obtain ⟨k, hk⟩ : ∃ k, (marks c)[i]? = some k := ⟨_, List.getElem?_eq_getElem hi2⟩
     obtain ⟨b5, rfl, h5⟩ : ∃ b5, p5 = some ⟨b5, 0, none⟩ ∧ ∀ {L : List (Nat × Obj)} {w' : World}, St w0.heap.size w0 (R5 ++ L) w' → w'.cell? ⟨b5, 0 + i * 1, none⟩ = some (int (k : Nat)) := by
      rcases hr5.2 with ⟨e, h0, _⟩ | ⟨b, cap, junk, e, _, _, _, rfl⟩
      · omega
      · cases e
        refine ⟨b, rfl, fun {L w'} H' => ?_⟩
        have hE := (ES.row (l := marks c) hr5 H').1
        obtain ⟨p, cap', e, _, (⟨e2, _⟩ | ⟨b', off, e2, _, hc⟩)⟩ := hE
        · cases e; cases e2
        · cases e; cases e2
          rw [Nat.mul_one]; exact hc i k hk
     have hkn : mget M ((k : Nat) : Int) = none := by
      rw [hget, if_neg]
      intro hm
      rw [List.mem_take_iff_getElem] at hm
      obtain ⟨j, hj, e⟩ := hm
      have e1 : (marks c)[i] = k := (List.getElem?_eq_some_iff.1 hk).2
      have := (List.getElem_inj hmn).1 (e.trans e1.symm)
      omega
     repeat refine cS0 ?_
     refine c_block ?_
     repeat refine cS0 ?_
     refine d_regionL [5] (by kernel_rfl) H ?_
     clear H; intro w H
     apply dP0 hF h 0 rfl rfl (by kernel_rfl) (by decide) NoP.np (by kernel_rfl) (H.sub (by repeat (first | exact ln1 | exact ls1 | exact lr1 | apply lk1 | apply List.Sublist.cons | apply la1)))
     · intro w H
       refine iL0 hF h H rfl rfl (by repeat (first | exact mh1 | apply mt1 | apply ma1)) (by exact rfl) (by decide) ?_
       intro a h
       exact ⟨rfl, h⟩
     clear h; intro a h
     apply dQ0 hF h 1 rfl rfl (by kernel_rfl) (by decide) NoP.np (fun _ => H.sub (by repeat (first | exact ln1 | exact ls1 | exact lr1 | apply lk1 | apply List.Sublist.cons | apply la1)))
     · intro w
       refine sM0 hF h rfl rfl (by decide) ?_
       intro a h
       exact ⟨rfl, h⟩
     clear h; intro a h
     apply dQ0 hF h 2 rfl rfl (by kernel_rfl) (by decide) NoP.np (fun _ => H.sub (by repeat (first | exact ln1 | exact ls1 | exact lr1 | apply lk1 | apply List.Sublist.cons | apply la1)))
     · intro w
       refine sM0 hF h rfl rfl (by decide) ?_
       intro a h
       exact ⟨rfl, h⟩
     clear h; intro a h
     apply dQ0 hF h 3 rfl rfl (by kernel_rfl) (by decide) NoP.np (fun _ => H.sub (by repeat (first | exact ln1 | exact ls1 | exact lr1 | apply lk1 | apply List.Sublist.cons | apply la1)))
     · intro w
       refine i_indexAddr hF h rfl rfl rfl hi2 rfl (by decide) ?_
       intro a h
       exact ⟨rfl, h⟩
     clear h; intro a h
     apply dP0 hF h 4 rfl rfl (by kernel_rfl) (by decide) NoP.np (by kernel_rfl) (H.sub (by repeat (first | exact ln1 | exact ls1 | exact lr1 | apply lk1 | apply List.Sublist.cons | apply la1)))
     · intro w H
       refine i_loadW hF h rfl rfl (h5 H) (by decide) ?_
       intro a h
       exact ⟨rfl, h⟩
     clear h; intro a h
     refine dE0 5 rfl (by kernel_rfl) ?_
     refine j_mapNew (enc := (Value.int .i64)) hF h H rfl rfl rfl rfl (by repeat (first | exact Upd.here | apply Upd.there | apply Upd.app)) (by first | rfl | assumption) (Or.inl rfl) ?_
     clear H; intro w H
     refine dNm0 (by kernel_rfl) ?_
     first | refine d_endThen (by kernel_rfl) ?_ | refine d_endQ (by kernel_rfl) ?_
     with_reducible repeat (first | refine xa0 ?_ | refine xb0 ?_ | refine xc0 ?_ | refine xd0 ?_ | refine xe0 (by decide) ?_ | refine xf0 ?_ | refine xg0 ?_ | refine xh0 ?_ | refine xi0 ?_)
     repeat refine cS0 ?_
     refine cR0 ?_
     refine sM0 hF h rfl rfl (by decide) ?_
     clear h; intro a h
     refine i_ar64 hF h rfl rfl rfl rfl (by omega) (by omega) (by decide) ?_
     clear h; intro a h
     refine sA0 hF h rfl rfl (by decide) ?_
     clear h; intro a h
     refine cE0 ?_
     refine ⟨(marks c).length - (i + 1), by omega, i + 1, M ++ [(((k : Nat) : Int), int 1, i)], rfl, by omega, ok_newA hM hkn, fun j => ?_, fun x hx => ?_, (h.sub (by repeat (first | exact trivial | refine ⟨rfl, ?_⟩))), H⟩
     · rw [mget_newA hkn, hget, List.take_add_one, hk]
       by_cases e : j = k
       · subst e; simp
       · have : ¬ ((j : Int) = (k : Int)) := by omega
         rw [if_neg this]
         simp [e]
     · rcases List.mem_append.1 hx with hx | hx
       · exact hnat x hx
       · have e : x = (((k : Nat) : Int), int 1, i) := by simpa using hx
         exact ⟨k, by rw [e]⟩
   · repeat refine cS0 ?_
     refine cR0 ?_
     refine sM0 hF h rfl rfl (by decide) ?_
     clear h; intro a h
     refine sM0 hF h rfl rfl (by decide) ?_
     clear h; intro a h
     refine i_len hF h rfl rfl (by decide) ?_
     clear h; intro a h
     (first | (refine iC0 hF h rfl rfl rfl (i_lss_t (by omega)) (by decide) ?_) | (refine iC0 hF h rfl rfl rfl (i_lss_f (by omega)) (by decide) ?_))
     clear h; intro a h
     first | refine cEt0 ?_ | refine cE0 ?_
     repeat refine cS0 ?_
     refine c_condF h rfl ?_
     refine c_exit ?_
     with_reducible repeat (first | refine xa0 ?_ | refine xb0 ?_ | refine xc0 ?_ | refine xd0 ?_ | refine xe0 (by decide) ?_ | refine xf0 ?_ | refine xg0 ?_ | refine xh0 ?_ | refine xi0 ?_)
     refine ⟨M, i, hM, ⟨fun k => ?_, hnat⟩, (h.sub (by repeat (first | exact trivial | refine ⟨rfl, ?_⟩))), H.sub (List.sublist_append_right _ _)⟩
     rw [hget, List.take_of_length_le (by omega)]
     simp
 clear h H
 rintro a w ⟨M0, cn, hM0, hL0, h, H⟩
 repeat refine cS0 ?_
 refine cR0 ?_
 refine sM0 hF h rfl rfl (by decide) ?_
 clear h; intro a h
 refine i_call hF h rfl (opsF_ret _ (ES_one hB) _) rfl (by decide) ?_
 clear h; rintro _ w ⟨bx, rfl, hbx, hmx, hb⟩ a h; replace H := H.callNew hb hbx hmx; clear hb hbx hmx
 refine sA0 hF h rfl rfl (by decide) ?_
 clear h; intro a h
 first | refine cEt0 ?_ | refine cE0 ?_
 repeat refine cS0 ?_
 refine cR0 ?_
 refine sM0 hF h rfl rfl (by decide) ?_
 clear h; intro a h
 refine i_eqF hF h rfl rfl rfl (by decide) ?_
 clear h; intro a h
 first | refine cEt0 ?_ | refine cE0 ?_
 repeat refine cS0 ?_
 refine c_condF h rfl ?_
 first | refine cKt0 ?_ | refine cK0 ?_
 repeat refine cS0 ?_
 refine cR0 ?_
 refine sM0 hF h rfl rfl (by decide) ?_
 clear h; intro a h
 first | refine cEt0 ?_ | refine cE0 ?_
 repeat refine cS0 ?_
 refine c_block ?_
 refine c_rangeFunc (ps := [35, 36]) (Rd := fun W => W.cell? ⟨bx, 0, none⟩ = some v ∧ BS W v c) h H rfl (ops_iter bx v c (by omega))
  (fun pre L1 => ∃ M, MapOk M cn ∧ Left c pre M ∧ L1 = [(bx, .cells [v].toArray 22 (0, 0)), (b4, .cells [.map (some b16)].toArray 39 (0, 0)), (b16, mapObj (Value.int .i64) M cn), (b3, .cells [int (endOf c 0 pre : Nat)].toArray 3 (0, 0)), (b2, .cells [.bool false].toArray 4 (0, 0))]) (fun _ _ _ => False)
  (fun k => [(9, byt (c.getD k 0)), (8, int (k : Nat)), (4, ptr b4 0), (3, ptr b3 0), (2, ptr b2 0), (0, v)]) (fun _ => rfl) (by decide) ⟨M0, hM0, hL0, rfl⟩ ?_ ?_ ?_ ?_ ?_
 · rintro pre _ W ⟨M, hM, hL, rfl⟩ H
   exact ⟨by rw [cell_of (H.mem (by repeat (first | exact mh1 | apply mt1 | apply ma1)))]; rfl, hB.at H (Nat.le_refl _)⟩
 · intro l k w a h
   have hF := Fd.inRound l
   repeat refine cS0 ?_
   refine cR0 ?_
   refine sA0 hF h rfl rfl (by decide) ?_
   clear h; intro a h
   first | refine cEt0 ?_ | refine cE0 ?_
   repeat refine cS0 ?_
   refine cR0 ?_
   refine sA0 hF h rfl rfl (by decide) ?_
   clear h; intro a h
   refine cE0 ?_
   exact ⟨rfl, (h.sub (by repeat (first | exact trivial | refine ⟨rfl, ?_⟩)))⟩
 · clear h H
   rintro l E pre k _ w a ⟨M, hM, hL, rfl⟩ hsp H h
   have hF := Fd.inRound l
   have hk0 := ops_next c.length 0 c pre k hsp
   have hkops : k ∈ ops c := by
    obtain ⟨t, ht⟩ := hsp
    rw [← ht]; simp
   have hkc : k < c.length := ops_lt c.length 0 c k hkops
   have hkpre : ¬ k ∈ pre := by
    obtain ⟨t, ht⟩ := hsp
    have hn := ops_nodup c.length 0 c
    have ht2 : opsN c.length c 0 = pre ++ [k] ++ t := ht.symm
    rw [ht2, List.append_assoc, List.nodup_append] at hn
    intro hk
    exact hn.2.2 k hk k (by simp) rfl
   have hmk : k ∈ Cd.marks c ↔ (c.getD k 0) = 91 := by
    unfold Cd.marks
    rw [List.mem_filter]
    simp [hkops]
   have hend := endOf_snoc c 0 k pre
   obtain ⟨x, hx⟩ : ∃ x, c.getD k 0 = x := ⟨_, rfl⟩
   rw [hx] at h hmk hend
   have hget := hL.1 k
   refine c_block ?_
   repeat refine cS0 ?_
   refine cR0 ?_
   refine sM0 hF h rfl rfl (by decide) ?_
   clear h; intro a h
   refine i_call hF h rfl (info_ret x _) rfl (by decide) ?_
   clear h; rintro _ w ⟨rfl, hb⟩ a h; replace H := H.call hb; clear hb
   refine sM0 hF h rfl rfl (by decide) ?_
   clear h; intro a h
   refine iX0 hF h rfl rfl rfl (by decide) ?_
   clear h; intro a h
   refine iX0 hF h rfl rfl rfl (by decide) ?_
   clear h; intro a h
   refine i_alloc hF h H rfl (by decide) ?_
   clear h H; intro a w b10 _ h H
   refine j_storeA hF h H rfl rfl rfl rfl rfl (by repeat (first | exact Upd.here | apply Upd.there | apply Upd.app)) (by repeat (first | exact PutAt.nil | apply PutAt.put | apply PutAt.skip)) ?_
   clear H; intro w H
   refine sA0 hF h rfl rfl (by decide) ?_
   clear h; intro a h
   first | refine cEt0 ?_ | refine cE0 ?_
   have hs32 := sz_le x.toNat
   have hsz := size_of x.toNat x.toNat_lt
   rw [← hk0] at H
   have key : ∀ b : Bool, (b = true ↔ x = 91) → mget M (k : Int) = (if b then some (int 1) else none) := fun b hb => by
    rw [hget]
    cases b with
    | true => rw [if_pos ⟨hmk.2 (hb.1 rfl), hkpre⟩]; rfl
    | false => rw [if_neg (fun hh => by have := hb.2 (hmk.1 hh.1); cases this)]; rfl
   clear hget
   repeat refine cS0 ?_
   refine c_join (fun a' w' => Fr 75 [] [(53, .bool false), (11, .bool (info x.toNat).isSome), (10, ptr b10 0), (8, int (k : Nat)), (4, ptr b4 0), (3, ptr b3 0), (2, ptr b2 0), (0, v)] a' ∧ St w0.heap.size w0 ((b10, .cells (cellsI ((info x.toNat).getD noneI)).toArray 42 (0, 0)) :: (E ++ [(bx, .cells [v].toArray 22 (0, 0)), (b4, .cells [.map (some b16)].toArray 39 (0, 0)), (b16, mapObj (Value.int .i64) M cn), (b3, .cells [int (k : Nat)].toArray 3 (0, 0)), (b2, .cells [.bool false].toArray 4 (0, 0))])) w') ?_ ?_
   · by_cases hx91 : x = 91
     · have hget := key true (by simp [hx91])
       have e91 : x.toNat = 91 := by rw [hx91]; rfl
       repeat refine cS0 ?_
       refine cR0 ?_
       refine sM0 hF h rfl rfl (by decide) ?_
       clear h; intro a h
       refine iL0 hF h H rfl rfl (by repeat (first | exact mh1 | apply mt1 | apply ma1)) (by exact rfl) (by decide) ?_
       clear h; intro a h
       (first | (refine iC0 hF h rfl rfl rfl (i_neq_t (by omega)) (by decide) ?_) | (refine iC0 hF h rfl rfl rfl (i_neq_f (by omega)) (by decide) ?_))
       clear h; intro a h
       refine sM0 hF h rfl rfl (by decide) ?_
       clear h; intro a h
       first | (refine sK0 hF h rfl (by decide) ?_; clear h; intro a h) | (refine iL0 hF h H rfl rfl (by repeat (first | exact mh1 | apply mt1 | apply ma1)) (by exact rfl) (by decide) ?_; clear h; intro a h)
       first | (refine sK0 hF h rfl (by decide) ?_; clear h; intro a h) | (refine sM0 hF h rfl rfl (by decide) ?_; clear h; intro a h)
       first | (refine sK0 hF h rfl (by decide) ?_; clear h; intro a h) | (refine i_lookupW (enc := Value.int .i64) (zero := int 0) hF h rfl (.inl ⟨by kernel_rfl, rfl⟩) rfl rfl (H.mem (by repeat (first | exact mh1 | apply mt1 | apply ma1))) (by decide) zero3 ?_; clear h; intro a h; rw [hget] at h)
       first | (refine sK0 hF h rfl (by decide) ?_; clear h; intro a h) | ((first | (refine iC0 hF h rfl rfl rfl (i_gtr_t (by omega)) (by decide) ?_) | (refine iC0 hF h rfl rfl rfl (i_gtr_f (by omega)) (by decide) ?_)); clear h; intro a h)
       first | (refine sK0 hF h rfl (by decide) ?_; clear h; intro a h) | (refine sM0 hF h rfl rfl (by decide) ?_; clear h; intro a h)
       first | (refine sK0 hF h rfl (by decide) ?_; clear h; intro a h) | ((first | (refine iC0 hF h rfl rfl rfl (i_eql_t (by omega)) (by decide) ?_) | (refine iC0 hF h rfl rfl rfl (i_eql_f (by omega)) (by decide) ?_)); clear h; intro a h)
       first | (refine sK0 hF h rfl (by decide) ?_; clear h; intro a h) | (refine i_neB hF h rfl rfl rfl (show (true != true) = false from rfl) (by decide) ?_; clear h; intro a h)
       refine s_pick hF h rfl rfl rfl (by decide) ?_
       clear h; intro a h
       first | refine cEt0 ?_ | refine cE0 ?_
       with_reducible repeat (first | refine xa0 ?_ | refine xb0 ?_ | refine xc0 ?_ | refine xd0 ?_ | refine xe0 (by decide) ?_ | refine xf0 ?_ | refine xg0 ?_ | refine xh0 ?_ | refine xi0 ?_)
       exact ⟨(h.sub (by repeat (first | exact trivial | refine ⟨rfl, ?_⟩))), H⟩
     · have hget := key false (by simp [hx91])
       have e91 : ¬ x.toNat = 91 := fun e => hx91 (UInt8.toNat_inj.1 e)
       repeat refine cS0 ?_
       refine cR0 ?_
       refine sM0 hF h rfl rfl (by decide) ?_
       clear h; intro a h
       refine iL0 hF h H rfl rfl (by repeat (first | exact mh1 | apply mt1 | apply ma1)) (by exact rfl) (by decide) ?_
       clear h; intro a h
       (first | (refine iC0 hF h rfl rfl rfl (i_neq_t (by omega)) (by decide) ?_) | (refine iC0 hF h rfl rfl rfl (i_neq_f (by omega)) (by decide) ?_))
       clear h; intro a h
       refine sM0 hF h rfl rfl (by decide) ?_
       clear h; intro a h
       first | (refine sK0 hF h rfl (by decide) ?_; clear h; intro a h) | (refine iL0 hF h H rfl rfl (by repeat (first | exact mh1 | apply mt1 | apply ma1)) (by exact rfl) (by decide) ?_; clear h; intro a h)
       first | (refine sK0 hF h rfl (by decide) ?_; clear h; intro a h) | (refine sM0 hF h rfl rfl (by decide) ?_; clear h; intro a h)
       first | (refine sK0 hF h rfl (by decide) ?_; clear h; intro a h) | (refine i_lookupW (enc := Value.int .i64) (zero := int 0) hF h rfl (.inl ⟨by kernel_rfl, rfl⟩) rfl rfl (H.mem (by repeat (first | exact mh1 | apply mt1 | apply ma1))) (by decide) zero3 ?_; clear h; intro a h; rw [hget] at h)
       first | (refine sK0 hF h rfl (by decide) ?_; clear h; intro a h) | ((first | (refine iC0 hF h rfl rfl rfl (i_gtr_t (by omega)) (by decide) ?_) | (refine iC0 hF h rfl rfl rfl (i_gtr_f (by omega)) (by decide) ?_)); clear h; intro a h)
       first | (refine sK0 hF h rfl (by decide) ?_; clear h; intro a h) | (refine sM0 hF h rfl rfl (by decide) ?_; clear h; intro a h)
       first | (refine sK0 hF h rfl (by decide) ?_; clear h; intro a h) | ((first | (refine iC0 hF h rfl rfl rfl (i_eql_t (by omega)) (by decide) ?_) | (refine iC0 hF h rfl rfl rfl (i_eql_f (by omega)) (by decide) ?_)); clear h; intro a h)
       first | (refine sK0 hF h rfl (by decide) ?_; clear h; intro a h) | (refine i_neB hF h rfl rfl rfl (show (false != false) = false from rfl) (by decide) ?_; clear h; intro a h)
       refine s_pick hF h rfl rfl rfl (by decide) ?_
       clear h; intro a h
       first | refine cEt0 ?_ | refine cE0 ?_
       with_reducible repeat (first | refine xa0 ?_ | refine xb0 ?_ | refine xc0 ?_ | refine xd0 ?_ | refine xe0 (by decide) ?_ | refine xf0 ?_ | refine xg0 ?_ | refine xh0 ?_ | refine xi0 ?_)
       exact ⟨(h.sub (by repeat (first | exact trivial | refine ⟨rfl, ?_⟩))), H⟩
   · clear h H
     rintro a w ⟨h, H⟩
     repeat refine cS0 ?_
     refine c_condF h rfl ?_
     first | refine cKt0 ?_ | refine cK0 ?_
     repeat refine cS0 ?_
     refine cR0 ?_
     refine iL0 hF h H rfl rfl (by repeat (first | exact mh1 | apply mt1 | apply ma1)) (by exact rfl) (by decide) ?_
     clear h; intro a h
     refine sM0 hF h rfl rfl (by decide) ?_
     clear h; intro a h
     refine i_mapDel (enc := Value.int .i64) (k := ((k : Nat) : Int)) hF h H rfl hM rfl rfl (by repeat (first | exact Upd.here | apply Upd.there | apply Upd.app)) ?_
     clear H; intro w H
     first | refine cEt0 ?_ | refine cE0 ?_
     repeat refine cS0 ?_
     refine cR0 ?_
     refine sM0 hF h rfl rfl (by decide) ?_
     clear h; intro a h
     refine i_ar64 hF h rfl rfl rfl rfl (by omega) (by omega) (by decide) ?_
     clear h; intro a h
     refine jS0 hF h H rfl rfl rfl rfl (by repeat (first | exact Upd.here | apply Upd.there | apply Upd.app)) (by repeat (first | exact SetAt.zero | apply SetAt.succ)) ?_
     clear H; intro w H
     first | refine cEt0 ?_ | refine cE0 ?_
     have hs3 := hL.more k
     cases hi : info x.toNat with
     | none =>
      have h0 := size_none x.toNat x.toNat_lt hi
      rw [hi] at h
      repeat refine cS0 ?_
      refine cR0 ?_
      refine sM0 hF h rfl rfl (by decide) ?_
      clear h; intro a h
      first | refine cEt0 ?_ | refine cE0 ?_
      repeat refine cS0 ?_
      refine c_condF h rfl ?_
      refine cK0 ?_
      with_reducible repeat (first | refine xa0 ?_ | refine xb0 ?_ | refine xc0 ?_ | refine xd0 ?_ | refine xe0 (by decide) ?_ | refine xf0 ?_ | refine xg0 ?_ | refine xh0 ?_ | refine xi0 ?_)
      refine ⟨_, ⟨mdel M (k : Int), hM.del _, hs3, rfl⟩, ?_⟩
      rw [hend, h0]
      exact H.sub (.cons _ (.refl _))
     | some y =>
      have h0 := size_known x.toNat y x.toNat_lt hi
      rw [hi] at h
      simp only [hi, Option.getD_some] at H
      repeat refine cS0 ?_
      refine cR0 ?_
      refine sM0 hF h rfl rfl (by decide) ?_
      clear h; intro a h
      first | refine cEt0 ?_ | refine cE0 ?_
      repeat refine cS0 ?_
      refine c_condT h rfl ?_
      repeat refine cS0 ?_
      refine cR0 ?_
      refine iL0 hF h H rfl rfl (by repeat (first | exact mh1 | apply mt1 | apply ma1)) (by exact rfl) (by decide) ?_
      clear h; intro a h
      refine iFa0 hF h rfl rfl rfl (by decide) ?_
      clear h; intro a h; try simp only [Nat.reduceAdd] at h
      refine iL0 hF h H rfl rfl (by repeat (first | exact mh1 | apply mt1 | apply ma1)) (by exact rfl) (by decide) ?_
      clear h; intro a h
      refine i_ar64 hF h rfl rfl rfl rfl (by omega) (by omega) (by decide) ?_
      clear h; intro a h
      refine jS0 hF h H rfl rfl rfl rfl (by repeat (first | exact Upd.here | apply Upd.there | apply Upd.app)) (by repeat (first | exact SetAt.zero | apply SetAt.succ)) ?_
      clear H; intro w H
      refine cE0 ?_
      with_reducible repeat (first | refine xa0 ?_ | refine xb0 ?_ | refine xc0 ?_ | refine xd0 ?_ | refine xe0 (by decide) ?_ | refine xf0 ?_ | refine xg0 ?_ | refine xh0 ?_ | refine xi0 ?_)
      refine ⟨_, ⟨mdel M (k : Int), hM.del _, hs3, rfl⟩, ?_⟩
      rw [hend, ← h0]
      exact H.sub (.cons _ (.refl _))
 · clear h H
   rintro D xs _ w a rfl ⟨M, hM, hL, rfl⟩ H h
   with_reducible repeat (first | refine xa0 ?_ | refine xb0 ?_ | refine xc0 ?_ | refine xd0 ?_ | refine xe0 (by decide) ?_ | refine xf0 ?_ | refine xg0 ?_ | refine xh0 ?_ | refine xi0 ?_)
   have hM0 : M = [] := hL.none hM
   subst hM0
   have he := ops_end c.length 0 c (by omega)
   have he2 : c.length ≤ endOf c 0 (ops c) := he
   have hbd : endOf c 0 (ops c) ≤ 1000 := endOf_le c (by omega)
   have hnl : ([] : Ents Int).length = 0 := rfl
   repeat refine cS0 ?_
   refine cR0 ?_
   refine iL0 hF h H rfl rfl (by repeat (first | exact mh1 | apply mt1 | apply ma1)) (by exact rfl) (by decide) ?_
   clear h; intro a h
   refine sM0 hF h rfl rfl (by decide) ?_
   clear h; intro a h
   refine i_lenB hF h rfl rfl (hB.at H (Nat.le_refl _)) (by decide) ?_
   clear h; intro a h
   (first | (refine iC0 hF h rfl rfl rfl (i_geq_t (by omega)) (by decide) ?_) | (refine iC0 hF h rfl rfl rfl (i_geq_f (by omega)) (by decide) ?_))
   clear h; intro a h
   refine sM0 hF h rfl rfl (by decide) ?_
   clear h; intro a h
   first | (refine sK0 hF h rfl (by decide) ?_; clear h; intro a h) | (refine iL0 hF h H rfl rfl (by repeat (first | exact mh1 | apply mt1 | apply ma1)) (by exact rfl) (by decide) ?_; clear h; intro a h)
   first | (refine sK0 hF h rfl (by decide) ?_; clear h; intro a h) | (refine i_lenMap (α := Int) (enc := Value.int .i64) (M := []) hF h H rfl rfl (by repeat (first | exact mh1 | apply mt1 | apply ma1)) (by decide) ?_; clear h; intro a h)
   first | (refine sK0 hF h rfl (by decide) ?_; clear h; intro a h) | ((first | (refine iC0 hF h rfl rfl rfl (i_eql_t (by omega)) (by decide) ?_) | (refine iC0 hF h rfl rfl rfl (i_eql_f (by omega)) (by decide) ?_)); clear h; intro a h)
   refine s_pick hF h rfl rfl rfl (by decide) ?_
   clear h; intro a h
   refine sM0 hF h rfl rfl (by decide) ?_
   clear h; intro a h
   first | (refine sK0 hF h rfl (by decide) ?_; clear h; intro a h) | (refine i_call hF h rfl (works_ret _) rfl (by decide) ?_; clear h; rintro _ w ⟨rfl, hb⟩ a h; replace H := H.call hb; clear hb)
   refine s_pick hF h rfl rfl rfl (by decide) ?_
   clear h; intro a h
   refine jS0 hF h H rfl rfl rfl rfl (by repeat (first | exact Upd.here | apply Upd.there | apply Upd.app)) (by repeat (first | exact SetAt.zero | apply SetAt.succ)) ?_
   clear H; intro w H
   first | refine cEt0 ?_ | refine cE0 ?_
   refine c_ret ?_
   with_reducible repeat (first | refine xa0 ?_ | refine xb0 ?_ | refine xc0 ?_ | refine xd0 ?_ | refine xe0 (by decide) ?_ | refine xf0 ?_ | refine xg0 ?_ | refine xh0 ?_ | refine xi0 ?_)
   refine leaveM (Ds := [D]) (fn := Tryz.f6) Tryz.results6 h H (fun w' H' => .own rfl H' (by repeat (first | exact mh1 | apply mt1 | apply ma1)) rfl .nil) (fun w' H' => ⟨_, rfl, rfl, H'.done⟩)
 · rintro _ _ _ _ _ _ _ h _ _
   exact h.elim
end Go.Proofs.YtjlmpghcjgbfjaaGreatDoor.Cw
namespace Go.Proofs.YtjlmpghcjgbfjaaGreatDoor.Cw
open Go Go.RowKit Go.Proofs Ex Cd
set_option maxRecDepth 100000
theorem ops_law (v : Value) (c : List UInt8) (many : Int) (w0 : World) (hB : BS w0 v c) : Rets Tryz.prog 3 [v, int many] w0 fun u w' => u = .bool true ∧ Below w0.heap.size w0 w' := by
 refine enterM Tryz.func3 rfl (Nat.le_of_ble_eq_true rfl) ?_
 intro a h; rw [Tryz.ntmps3] at h
 have hF := Fd.wide; have H := St.begin w0
 repeat refine cS0 ?_
 refine cR0 ?_
 refine i_box1 hF h H rfl rfl (ES_one hB) (by decide) ?_
 clear h H; intro a w b2 _ h H
 refine i_box1 hF h H rfl rfl rfl (by decide) ?_
 clear h H; intro a w b3 _ h H
 refine i_alloc hF h H rfl (by decide) ?_
 clear h H; intro a w b4 _ h H
 refine cEt0 ?_
 by_cases hl : 300 < c.length
 · repeat refine cS0 ?_
   refine cR0 ?_
   refine iL0 hF h H rfl rfl (by repeat (first | exact mh1 | apply mt1 | apply ma1)) (by exact rfl) (by decide) ?_
   clear h; intro a h
   refine i_lenB hF h rfl rfl (hB.at H (Nat.le_refl _)) (by decide) ?_
   clear h; intro a h
   (first | (refine iC0 hF h rfl rfl rfl (i_gtr_t (by omega)) (by decide) ?_) | (refine iC0 hF h rfl rfl rfl (i_gtr_f (by omega)) (by decide) ?_))
   clear h; intro a h
   first | refine cEt0 ?_ | refine cE0 ?_
   repeat refine cS0 ?_
   refine c_condT h rfl ?_
   repeat refine cS0 ?_
   refine cR0 ?_
   refine i_call hF h rfl (works_ret _) rfl (by decide) ?_
   clear h; rintro _ w ⟨rfl, hb⟩ a h; replace H := H.call hb; clear hb
   refine jS0 hF h H rfl rfl rfl rfl (by repeat (first | exact Upd.here | apply Upd.there | apply Upd.app)) (by repeat (first | exact SetAt.zero | apply SetAt.succ)) ?_
   clear H; intro w H
   first | refine cEt0 ?_ | refine cE0 ?_
   refine c_ret ?_
   with_reducible repeat (first | refine xa0 ?_ | refine xb0 ?_ | refine xc0 ?_ | refine xd0 ?_ | refine xe0 (by decide) ?_ | refine xf0 ?_ | refine xg0 ?_ | refine xh0 ?_ | refine xi0 ?_)
   refine leaveM (Ds := []) (fn := Tryz.f3) Tryz.results3 h H (fun w' H' => .own rfl H' (by repeat (first | exact mh1 | apply mt1 | apply ma1)) rfl .nil) (fun w' H' => ⟨_, rfl, rfl, H'.done⟩)
 repeat refine cS0 ?_
 refine cR0 ?_
 refine iL0 hF h H rfl rfl (by repeat (first | exact mh1 | apply mt1 | apply ma1)) (by exact rfl) (by decide) ?_
 clear h; intro a h
 refine i_lenB hF h rfl rfl (hB.at H (Nat.le_refl _)) (by decide) ?_
 clear h; intro a h
 (first | (refine iC0 hF h rfl rfl rfl (i_gtr_t (by omega)) (by decide) ?_) | (refine iC0 hF h rfl rfl rfl (i_gtr_f (by omega)) (by decide) ?_))
 clear h; intro a h
 first | refine cEt0 ?_ | refine cE0 ?_
 repeat refine cS0 ?_
 refine c_condF h rfl ?_
 first | refine cKt0 ?_ | refine cK0 ?_
 repeat refine cS0 ?_
 refine cR0 ?_
 refine iL0 hF h H rfl rfl (by repeat (first | exact mh1 | apply mt1 | apply ma1)) (by exact rfl) (by decide) ?_
 clear h; intro a h
 refine i_call hF h rfl (rops_ret v c (by omega) _ (hB.at H (Nat.le_refl _))) rfl (by decide) ?_
 clear h; rintro vo w hg a h; obtain ⟨RO, hro, H2⟩ := H.row hg; replace H := H2; clear H2 hg
 refine i_alloc hF h H rfl (by decide) ?_
 clear h H; intro a w b5 _ h H
 refine jS0 hF h H rfl rfl rfl hro.one (by repeat (first | exact Upd.here | apply Upd.there | apply Upd.app)) (by repeat (first | exact SetAt.zero | apply SetAt.succ)) ?_
 clear H; intro w H
 first | refine cEt0 ?_ | refine cE0 ?_
 repeat refine cS0 ?_
 refine cR0 ?_
 refine iL0 hF h H rfl rfl (by repeat (first | exact mh1 | apply mt1 | apply ma1)) (by exact rfl) (by decide) ?_
 clear h; intro a h
 refine i_call hF h rfl (opsF_ret _ (ES_one hB) _) rfl (by decide) ?_
 clear h; rintro _ w ⟨bx, rfl, hbx, hmx, hb⟩ a h; replace H := H.callNew hb hbx hmx; clear hb hbx hmx
 refine sA0 hF h rfl rfl (by decide) ?_
 clear h; intro a h
 first | refine cEt0 ?_ | refine cE0 ?_
 repeat refine cS0 ?_
 refine cR0 ?_
 refine sM0 hF h rfl rfl (by decide) ?_
 clear h; intro a h
 refine i_eqF hF h rfl rfl rfl (by decide) ?_
 clear h; intro a h
 first | refine cEt0 ?_ | refine cE0 ?_
 repeat refine cS0 ?_
 refine c_condF h rfl ?_
 first | refine cKt0 ?_ | refine cK0 ?_
 repeat refine cS0 ?_
 refine cR0 ?_
 refine i_alloc hF h H rfl (by decide) ?_
 clear h H; intro a w b7 _ h H
 refine jS0 hF h H rfl rfl rfl rfl (by repeat (first | exact Upd.here | apply Upd.there | apply Upd.app)) (by repeat (first | exact SetAt.zero | apply SetAt.succ)) ?_
 clear H; intro w H
 first | refine cEt0 ?_ | refine cE0 ?_
 have hol : (ops c).length ≤ c.length := ops_length c.length 0 c
 have hO : ∀ {L : List (Nat × Obj)} {w' : World}, St w0.heap.size w0 L w' → RO.Sublist L → ES (fun k : Nat => int k) w' vo (ops c) := fun H' hs => (ES.row (l := ops c) (L := []) hro (by rw [List.append_nil]; exact H'.sub hs)).1
 repeat refine cS0 ?_
 refine c_block ?_
 refine c_loopN (fun q a' w' => ∃ (turn b7 : Nat) (Ds : List Nat), q = 2 - turn ∧ turn ≤ 2 ∧ Fr 80 (marksOf Ds) [(7, ptr b7 0), (6, .func (.func 21) #[] #[ptr bx 0]), (5, ptr b5 0), (4, ptr b4 0), (3, ptr b3 0), (2, ptr b2 0)] a' ∧ St w0.heap.size w0 (dblocks Ds ++ ((b7, .cells [int (turn : Nat)].toArray 3 (0, 0)) :: (bx, .cells [v].toArray 22 (0, 0)) :: (b5, .cells [vo].toArray 24 (0, 0)) :: (RO ++ [(b4, .cells [.bool false].toArray 4 (0, 0)), (b3, .cells [int many].toArray 3 (0, 0)), (b2, .cells [v].toArray 22 (0, 0))]))) w') 2
  ⟨0, b7, [], rfl, by omega, (h.sub (by repeat (first | exact trivial | refine ⟨rfl, ?_⟩))), H⟩ ?_
 clear h H
 rintro q a w ⟨turn, b7, Ds, rfl, ht2, h, H⟩
 by_cases hturn : turn < 2
 · repeat refine cS0 ?_
   refine cR0 ?_
   refine iL0 hF h H rfl rfl (by repeat (first | exact mh1 | apply mt1 | apply ma1)) (by exact rfl) (by decide) ?_
   clear h; intro a h
   (first | (refine iC0 hF h rfl rfl rfl (i_lss_t (by omega)) (by decide) ?_) | (refine iC0 hF h rfl rfl rfl (i_lss_f (by omega)) (by decide) ?_))
   clear h; intro a h
   first | refine cEt0 ?_ | refine cE0 ?_
   repeat refine cS0 ?_
   refine c_condT h rfl ?_
   first | refine cKt0 ?_ | refine cK0 ?_
   repeat refine cS0 ?_
   refine c_block ?_
   repeat refine cS0 ?_
   refine cR0 ?_
   refine i_alloc hF h H rfl (by decide) ?_
   clear h H; intro a w b8 _ h H
   refine jS0 hF h H rfl rfl rfl rfl (by repeat (first | exact Upd.here | apply Upd.there | apply Upd.app)) (by repeat (first | exact SetAt.zero | apply SetAt.succ)) ?_
   clear H; intro w H
   first | refine cEt0 ?_ | refine cE0 ?_
   repeat refine cS0 ?_
   refine cR0 ?_
   refine sM0 hF h rfl rfl (by decide) ?_
   clear h; intro a h
   first | refine cEt0 ?_ | refine cE0 ?_
   repeat refine cS0 ?_
   refine c_join (fun a' w' => ∃ D n, (turn = 0 → ((n : Nat) : Int) = (if (if many > 1 then many else 1) < ((ops c).length : Int) then (if many > 1 then many else 1) else ((ops c).length : Int))) ∧ (turn = 1 → n = (ops c).length) ∧ Fr 80 (marksOf (D :: Ds)) [(8, ptr b8 0), (7, ptr b7 0), (6, .func (.func 21) #[] #[ptr bx 0]), (5, ptr b5 0), (4, ptr b4 0), (3, ptr b3 0), (2, ptr b2 0)] a' ∧
    St w0.heap.size w0 ((D, dfr) :: (b8, .cells [int (n : Nat)].toArray 3 (0, 0)) :: (dblocks Ds ++ ((b7, .cells [int (turn : Nat)].toArray 3 (0, 0)) :: (bx, .cells [v].toArray 22 (0, 0)) :: (b5, .cells [vo].toArray 24 (0, 0)) :: (RO ++ [(b4, .cells [.bool false].toArray 4 (0, 0)), (b3, .cells [int many].toArray 3 (0, 0)), (b2, .cells [v].toArray 22 (0, 0))])))) w') ?_ ?_
   · refine c_block ?_
     refine c_rangeFunc (ps := [26, 27]) (Rd := fun W => W.cell? ⟨bx, 0, none⟩ = some v ∧ BS W v c) h H rfl (ops_iter bx v c (by omega))
      (fun pre L1 => (turn = 0 → pre = [] ∨ ((pre.length : Nat) : Int) < many) ∧ L1 = (b8, .cells [int (pre.length : Nat)].toArray 3 (0, 0)) :: (dblocks Ds ++ ((b7, .cells [int (turn : Nat)].toArray 3 (0, 0)) :: (bx, .cells [v].toArray 22 (0, 0)) :: (b5, .cells [vo].toArray 24 (0, 0)) :: (RO ++ [(b4, .cells [.bool false].toArray 4 (0, 0)), (b3, .cells [int many].toArray 3 (0, 0)), (b2, .cells [v].toArray 22 (0, 0))]))))
      (fun cd pre L1 => cd = .exit 2 ∧ turn = 0 ∧ 1 ≤ pre.length ∧ many ≤ ((pre.length : Nat) : Int) ∧ (pre.length = 1 ∨ ((pre.length : Nat) : Int) - 1 < many) ∧ L1 = (b8, .cells [int (pre.length : Nat)].toArray 3 (0, 0)) :: (dblocks Ds ++ ((b7, .cells [int (turn : Nat)].toArray 3 (0, 0)) :: (bx, .cells [v].toArray 22 (0, 0)) :: (b5, .cells [vo].toArray 24 (0, 0)) :: (RO ++ [(b4, .cells [.bool false].toArray 4 (0, 0)), (b3, .cells [int many].toArray 3 (0, 0)), (b2, .cells [v].toArray 22 (0, 0))]))))
      (fun k => [(10, byt (c.getD k 0)), (9, int (k : Nat)), (8, ptr b8 0), (7, ptr b7 0), (6, .func (.func 21) #[] #[ptr bx 0]), (5, ptr b5 0), (4, ptr b4 0), (3, ptr b3 0), (2, ptr b2 0)]) (fun _ => rfl) (by decide) ⟨fun _ => .inl rfl, rfl⟩ ?_ ?_ ?_ ?_ ?_
     · rintro pre _ W ⟨_, rfl⟩ H
       exact ⟨by rw [cell_of (H.mem (by repeat (first | exact mh1 | apply mt1 | apply ma1)))]; rfl, hB.at H (Nat.le_refl _)⟩
     · intro l k w a h
       have hF := Fd.inRound l
       repeat refine cS0 ?_
       refine cR0 ?_
       refine sA0 hF h rfl rfl (by decide) ?_
       clear h; intro a h
       first | refine cEt0 ?_ | refine cE0 ?_
       repeat refine cS0 ?_
       refine cR0 ?_
       refine sA0 hF h rfl rfl (by decide) ?_
       clear h; intro a h
       refine cE0 ?_
       exact ⟨rfl, (h.sub (by repeat (first | exact trivial | refine ⟨rfl, ?_⟩)))⟩
     · clear h H
       rintro l E pre k _ w a ⟨hmore, rfl⟩ hsp H h
       have hF := Fd.inRound l
       have hkops : k ∈ ops c := by
        obtain ⟨t, ht⟩ := hsp
        rw [← ht]; simp
       have hkc : k < c.length := ops_lt c.length 0 c k hkops
       have hpl : pre.length < (ops c).length := by
        have := hsp.length_le
        simp at this; omega
       have hkn : (ops c)[pre.length]? = some k := by
        obtain ⟨t, ht⟩ := hsp
        rw [← ht]; simp
       obtain ⟨x, hx⟩ : ∃ x, c[k]? = some x := ⟨_, List.getElem?_eq_getElem hkc⟩
       have hxd : c.getD k 0 = x := by rw [List.getD_eq_getElem?_getD, hx]; rfl
       rw [hxd] at h
       refine c_block ?_
       repeat refine cS0 ?_
       refine cR0 ?_
       refine iL0 hF h H rfl rfl (by repeat (first | exact mh1 | apply mt1 | apply ma1)) (by exact rfl) (by decide) ?_
       clear h; intro a h
       refine iL0 hF h H rfl rfl (by repeat (first | exact mh1 | apply mt1 | apply ma1)) (by exact rfl) (by decide) ?_
       clear h; intro a h
       refine i_lenB hF h rfl rfl (hO H (by repeat (first | exact List.sublist_append_left _ _ | apply List.Sublist.cons | apply la1))) (by decide) ?_
       clear h; intro a h
       (first | (refine iC0 hF h rfl rfl rfl (i_geq_t (by omega)) (by decide) ?_) | (refine iC0 hF h rfl rfl rfl (i_geq_f (by omega)) (by decide) ?_))
       clear h; intro a h
       refine sM0 hF h rfl rfl (by decide) ?_
       clear h; intro a h
       first | (refine sK0 hF h rfl (by decide) ?_; clear h; intro a h) | (refine sM0 hF h rfl rfl (by decide) ?_; clear h; intro a h)
       first | (refine sK0 hF h rfl (by decide) ?_; clear h; intro a h) | (refine iL0 hF h H rfl rfl (by repeat (first | exact mh1 | apply mt1 | apply ma1)) (by exact rfl) (by decide) ?_; clear h; intro a h)
       first | (refine sK0 hF h rfl (by decide) ?_; clear h; intro a h) | (refine iL0 hF h H rfl rfl (by repeat (first | exact mh1 | apply mt1 | apply ma1)) (by exact rfl) (by decide) ?_; clear h; intro a h)
       first | (refine sK0 hF h rfl (by decide) ?_; clear h; intro a h) | (refine i_idxB hF h rfl rfl (hO H (by repeat (first | exact List.sublist_append_left _ _ | apply List.Sublist.cons | apply la1))) rfl hkn (by decide) ?_; clear h; intro be bo a hbe h)
       first | (refine sK0 hF h rfl (by decide) ?_; clear h; intro a h) | (refine i_loadW hF h rfl rfl hbe (by decide) ?_; clear h; intro a h)
       first | (refine sK0 hF h rfl (by decide) ?_; clear h; intro a h) | ((first | (refine iC0 hF h rfl rfl rfl (i_neq_t (by omega)) (by decide) ?_) | (refine iC0 hF h rfl rfl rfl (i_neq_f (by omega)) (by decide) ?_)); clear h; intro a h)
       refine s_pick hF h rfl rfl rfl (by decide) ?_
       clear h; intro a h
       refine sM0 hF h rfl rfl (by decide) ?_
       clear h; intro a h
       first | (refine sK0 hF h rfl (by decide) ?_; clear h; intro a h) | (refine sM0 hF h rfl rfl (by decide) ?_; clear h; intro a h)
       first | (refine sK0 hF h rfl (by decide) ?_; clear h; intro a h) | (refine iL0 hF h H rfl rfl (by repeat (first | exact mh1 | apply mt1 | apply ma1)) (by exact rfl) (by decide) ?_; clear h; intro a h)
       first | (refine sK0 hF h rfl (by decide) ?_; clear h; intro a h) | (refine sM0 hF h rfl rfl (by decide) ?_; clear h; intro a h)
       first | (refine sK0 hF h rfl (by decide) ?_; clear h; intro a h) | (refine i_idxB hF h rfl rfl (hB.at H (Nat.le_refl _)) rfl hx (by decide) ?_; clear h; intro be bo a hbe h)
       first | (refine sK0 hF h rfl (by decide) ?_; clear h; intro a h) | (refine i_loadW hF h rfl rfl hbe (by decide) ?_; clear h; intro a h)
       first | (refine sK0 hF h rfl (by decide) ?_; clear h; intro a h) | ((first | (refine iC0 hF h rfl rfl rfl (i_neq_t (by omega)) (by decide) ?_) | (refine iC0 hF h rfl rfl rfl (i_neq_f (by omega)) (by decide) ?_)); clear h; intro a h)
       refine s_pick hF h rfl rfl rfl (by decide) ?_
       clear h; intro a h
       first | refine cEt0 ?_ | refine cE0 ?_
       repeat refine cS0 ?_
       refine c_condF h rfl ?_
       first | refine cKt0 ?_ | refine cK0 ?_
       repeat refine cS0 ?_
       refine cR0 ?_
       refine iL0 hF h H rfl rfl (by repeat (first | exact mh1 | apply mt1 | apply ma1)) (by exact rfl) (by decide) ?_
       clear h; intro a h
       refine i_ar64 hF h rfl rfl rfl rfl (by omega) (by omega) (by decide) ?_
       clear h; intro a h
       refine jS0 hF h H rfl rfl rfl rfl (by repeat (first | exact Upd.here | apply Upd.there | apply Upd.app)) (by repeat (first | exact SetAt.zero | apply SetAt.succ)) ?_
       clear H; intro w H
       first | refine cEt0 ?_ | refine cE0 ?_
       have hlen1 : ((pre ++ [k]).length : Nat) = pre.length + 1 := by simp
       have hlen2 : (pre.length : Int) + 1 = ((pre.length + 1 : Nat) : Int) := by omega
       rw [hlen2, ← hlen1] at H
       by_cases hstop : turn = 0 ∧ many ≤ (pre.length : Int) + 1
       · obtain ⟨rfl, hmany⟩ := hstop
         repeat refine cS0 ?_
         refine cR0 ?_
         refine iL0 hF h H rfl rfl (by repeat (first | exact mh1 | apply mt1 | apply ma1)) (by exact rfl) (by decide) ?_
         clear h; intro a h
         (first | (refine iC0 hF h rfl rfl rfl (i_eql_t (by omega)) (by decide) ?_) | (refine iC0 hF h rfl rfl rfl (i_eql_f (by omega)) (by decide) ?_))
         clear h; intro a h
         refine sM0 hF h rfl rfl (by decide) ?_
         clear h; intro a h
         first | (refine sK0 hF h rfl (by decide) ?_; clear h; intro a h) | (refine iL0 hF h H rfl rfl (by repeat (first | exact mh1 | apply mt1 | apply ma1)) (by exact rfl) (by decide) ?_; clear h; intro a h)
         first | (refine sK0 hF h rfl (by decide) ?_; clear h; intro a h) | (refine iL0 hF h H rfl rfl (by repeat (first | exact mh1 | apply mt1 | apply ma1)) (by exact rfl) (by decide) ?_; clear h; intro a h)
         first | (refine sK0 hF h rfl (by decide) ?_; clear h; intro a h) | ((first | (refine iC0 hF h rfl rfl rfl (i_geq_t (by omega)) (by decide) ?_) | (refine iC0 hF h rfl rfl rfl (i_geq_f (by omega)) (by decide) ?_)); clear h; intro a h)
         refine s_pick hF h rfl rfl rfl (by decide) ?_
         clear h; intro a h
         first | refine cEt0 ?_ | refine cE0 ?_
         repeat refine cS0 ?_
         refine c_condT h rfl ?_
         refine c_exit ?_
         with_reducible repeat (first | refine xa0 ?_ | refine xb0 ?_ | refine xc0 ?_ | refine xd0 ?_ | refine xe0 (by decide) ?_ | refine xf0 ?_ | refine xg0 ?_ | refine xh0 ?_ | refine xi0 ?_)
         refine ⟨_, ⟨rfl, rfl, by omega, by omega, ?_, rfl⟩, H⟩
         rcases hmore rfl with rfl | hlt
         · exact .inl rfl
         · exact .inr (by omega)
       · by_cases h0 : turn = 0
         · repeat refine cS0 ?_
           refine cR0 ?_
           refine iL0 hF h H rfl rfl (by repeat (first | exact mh1 | apply mt1 | apply ma1)) (by exact rfl) (by decide) ?_
           clear h; intro a h
           (first | (refine iC0 hF h rfl rfl rfl (i_eql_t (by omega)) (by decide) ?_) | (refine iC0 hF h rfl rfl rfl (i_eql_f (by omega)) (by decide) ?_))
           clear h; intro a h
           refine sM0 hF h rfl rfl (by decide) ?_
           clear h; intro a h
           first | (refine sK0 hF h rfl (by decide) ?_; clear h; intro a h) | (refine iL0 hF h H rfl rfl (by repeat (first | exact mh1 | apply mt1 | apply ma1)) (by exact rfl) (by decide) ?_; clear h; intro a h)
           first | (refine sK0 hF h rfl (by decide) ?_; clear h; intro a h) | (refine iL0 hF h H rfl rfl (by repeat (first | exact mh1 | apply mt1 | apply ma1)) (by exact rfl) (by decide) ?_; clear h; intro a h)
           first | (refine sK0 hF h rfl (by decide) ?_; clear h; intro a h) | ((first | (refine iC0 hF h rfl rfl rfl (i_geq_t (by omega)) (by decide) ?_) | (refine iC0 hF h rfl rfl rfl (i_geq_f (by omega)) (by decide) ?_)); clear h; intro a h)
           refine s_pick hF h rfl rfl rfl (by decide) ?_
           clear h; intro a h
           first | refine cEt0 ?_ | refine cE0 ?_
           repeat refine cS0 ?_
           refine c_condF h rfl ?_
           refine cK0 ?_
           with_reducible repeat (first | refine xa0 ?_ | refine xb0 ?_ | refine xc0 ?_ | refine xd0 ?_ | refine xe0 (by decide) ?_ | refine xf0 ?_ | refine xg0 ?_ | refine xh0 ?_ | refine xi0 ?_)
           exact ⟨_, ⟨fun _ => .inr (by omega), rfl⟩, H⟩
         · repeat refine cS0 ?_
           refine cR0 ?_
           refine iL0 hF h H rfl rfl (by repeat (first | exact mh1 | apply mt1 | apply ma1)) (by exact rfl) (by decide) ?_
           clear h; intro a h
           (first | (refine iC0 hF h rfl rfl rfl (i_eql_t (by omega)) (by decide) ?_) | (refine iC0 hF h rfl rfl rfl (i_eql_f (by omega)) (by decide) ?_))
           clear h; intro a h
           refine sM0 hF h rfl rfl (by decide) ?_
           clear h; intro a h
           first | (refine sK0 hF h rfl (by decide) ?_; clear h; intro a h) | (refine iL0 hF h H rfl rfl (by repeat (first | exact mh1 | apply mt1 | apply ma1)) (by exact rfl) (by decide) ?_; clear h; intro a h)
           first | (refine sK0 hF h rfl (by decide) ?_; clear h; intro a h) | (refine iL0 hF h H rfl rfl (by repeat (first | exact mh1 | apply mt1 | apply ma1)) (by exact rfl) (by decide) ?_; clear h; intro a h)
           first | (refine sK0 hF h rfl (by decide) ?_; clear h; intro a h) | ((first | (refine iC0 hF h rfl rfl rfl (i_geq_t (by omega)) (by decide) ?_) | (refine iC0 hF h rfl rfl rfl (i_geq_f (by omega)) (by decide) ?_)); clear h; intro a h)
           refine s_pick hF h rfl rfl rfl (by decide) ?_
           clear h; intro a h
           first | refine cEt0 ?_ | refine cE0 ?_
           repeat refine cS0 ?_
           refine c_condF h rfl ?_
           refine cK0 ?_
           with_reducible repeat (first | refine xa0 ?_ | refine xb0 ?_ | refine xc0 ?_ | refine xd0 ?_ | refine xe0 (by decide) ?_ | refine xf0 ?_ | refine xg0 ?_ | refine xh0 ?_ | refine xi0 ?_)
           exact ⟨_, ⟨fun e => absurd e h0, rfl⟩, H⟩
     · clear h H
       rintro D xs _ w a rfl ⟨hmore, rfl⟩ H h
       with_reducible repeat (first | refine xa0 ?_ | refine xb0 ?_ | refine xc0 ?_ | refine xd0 ?_ | refine xe0 (by decide) ?_ | refine xf0 ?_ | refine xg0 ?_ | refine xh0 ?_ | refine xi0 ?_)
       refine ⟨D, (ops c).length, fun e => ?_, fun _ => rfl, (h.sub (by repeat (first | exact trivial | refine ⟨rfl, ?_⟩))), H⟩
       rcases hmore e with e0 | hlt
       · rw [e0]; simp only [List.length_nil]; split <;> (try split) <;> omega
       · have e1 : (if many > 1 then many else 1) ≥ many := by split <;> omega
         rw [if_neg (by omega)]
     · clear h H
       rintro D cd pre L1 w a hsp ⟨rfl, h0, h1, hm1, hm2, rfl⟩ H h
       have hle := hsp.length_le
       refine c_exit ?_
       with_reducible repeat (first | refine xa0 ?_ | refine xb0 ?_ | refine xc0 ?_ | refine xd0 ?_ | refine xe0 (by decide) ?_ | refine xf0 ?_ | refine xg0 ?_ | refine xh0 ?_ | refine xi0 ?_)
       refine ⟨D, pre.length, fun e => ?_, fun e => by omega, (h.sub (by repeat (first | exact trivial | refine ⟨rfl, ?_⟩))), H⟩
       have e1 : (if many > 1 then many else 1) = (pre.length : Int) := by split <;> omega
       rw [e1]
       split <;> omega
   clear h H
   rintro a w ⟨D, n, hn0, hn1, h, H⟩
   have hbd : n ≤ 1000 := by
    by_cases h0 : turn = 0
    · have := hn0 h0
      split at this <;> omega
    · have := hn1 (by omega)
      omega
   repeat refine cS0 ?_
   refine c_join (fun a' w' => Fr 80 (marksOf (D :: Ds)) [(77, .bool false), (7, ptr b7 0), (6, .func (.func 21) #[] #[ptr bx 0]), (5, ptr b5 0), (4, ptr b4 0), (3, ptr b3 0), (2, ptr b2 0)] a' ∧
    St w0.heap.size w0 ((D, dfr) :: (dblocks Ds ++ ((b7, .cells [int (turn : Nat)].toArray 3 (0, 0)) :: (bx, .cells [v].toArray 22 (0, 0)) :: (b5, .cells [vo].toArray 24 (0, 0)) :: (RO ++ [(b4, .cells [.bool false].toArray 4 (0, 0)), (b3, .cells [int many].toArray 3 (0, 0)), (b2, .cells [v].toArray 22 (0, 0))])))) w') ?_ ?_
   · by_cases h0 : turn = 0
     · subst h0
       have hmin := hn0 rfl
       repeat refine cS0 ?_
       refine cR0 ?_
       refine iL0 hF h H rfl rfl (by repeat (first | exact mh1 | apply mt1 | apply ma1)) (by exact rfl) (by decide) ?_
       clear h; intro a h
       (first | (refine iC0 hF h rfl rfl rfl (i_eql_t (by omega)) (by decide) ?_) | (refine iC0 hF h rfl rfl rfl (i_eql_f (by omega)) (by decide) ?_))
       clear h; intro a h
       refine sM0 hF h rfl rfl (by decide) ?_
       clear h; intro a h
       first | (refine sK0 hF h rfl (by decide) ?_; clear h; intro a h) | (refine iL0 hF h H rfl rfl (by repeat (first | exact mh1 | apply mt1 | apply ma1)) (by exact rfl) (by decide) ?_; clear h; intro a h)
       first | (refine sK0 hF h rfl (by decide) ?_; clear h; intro a h) | (refine iL0 hF h H rfl rfl (by repeat (first | exact mh1 | apply mt1 | apply ma1)) (by exact rfl) (by decide) ?_; clear h; intro a h)
       first | (refine sK0 hF h rfl (by decide) ?_; clear h; intro a h) | (refine i_lenB hF h rfl rfl (hO H (by repeat (first | exact List.sublist_append_left _ _ | apply List.Sublist.cons | apply la1))) (by decide) ?_; clear h; intro a h)
       first | (refine sK0 hF h rfl (by decide) ?_; clear h; intro a h) | (refine iL0 hF h H rfl rfl (by repeat (first | exact mh1 | apply mt1 | apply ma1)) (by exact rfl) (by decide) ?_; clear h; intro a h)
       first | (refine sK0 hF h rfl (by decide) ?_; clear h; intro a h) | (refine i_max hF h rfl rfl rfl (by decide) ?_; clear h; intro a h)
       first | (refine sK0 hF h rfl (by decide) ?_; clear h; intro a h) | (refine i_min hF h rfl rfl rfl (by decide) ?_; clear h; intro a h)
       first | (refine sK0 hF h rfl (by decide) ?_; clear h; intro a h) | (refine iC0 hF h rfl rfl rfl (i_neq_f hmin) (by decide) ?_; clear h; intro a h)
       refine s_pick hF h rfl rfl rfl (by decide) ?_
       clear h; intro a h
       refine sM0 hF h rfl rfl (by decide) ?_
       clear h; intro a h
       first | (refine sK0 hF h rfl (by decide) ?_; clear h; intro a h) | (refine iL0 hF h H rfl rfl (by repeat (first | exact mh1 | apply mt1 | apply ma1)) (by exact rfl) (by decide) ?_; clear h; intro a h)
       first | (refine sK0 hF h rfl (by decide) ?_; clear h; intro a h) | ((first | (refine iC0 hF h rfl rfl rfl (i_eql_t (by omega)) (by decide) ?_) | (refine iC0 hF h rfl rfl rfl (i_eql_f (by omega)) (by decide) ?_)); clear h; intro a h)
       first | (refine sK0 hF h rfl (by decide) ?_; clear h; intro a h) | (refine sM0 hF h rfl rfl (by decide) ?_; clear h; intro a h)
       first | (refine sK0 hF h rfl (by decide) ?_; clear h; intro a h) | (refine iL0 hF h H rfl rfl (by repeat (first | exact mh1 | apply mt1 | apply ma1)) (by exact rfl) (by decide) ?_; clear h; intro a h)
       first | (refine sK0 hF h rfl (by decide) ?_; clear h; intro a h) | (refine iL0 hF h H rfl rfl (by repeat (first | exact mh1 | apply mt1 | apply ma1)) (by exact rfl) (by decide) ?_; clear h; intro a h)
       first | (refine sK0 hF h rfl (by decide) ?_; clear h; intro a h) | (refine i_lenB hF h rfl rfl (hO H (by repeat (first | exact List.sublist_append_left _ _ | apply List.Sublist.cons | apply la1))) (by decide) ?_; clear h; intro a h)
       first | (refine sK0 hF h rfl (by decide) ?_; clear h; intro a h) | ((first | (refine iC0 hF h rfl rfl rfl (i_neq_t (by omega)) (by decide) ?_) | (refine iC0 hF h rfl rfl rfl (i_neq_f (by omega)) (by decide) ?_)); clear h; intro a h)
       first | (refine sK0 hF h rfl (by decide) ?_; clear h; intro a h) | (refine s_pick hF h rfl rfl rfl (by decide) ?_; clear h; intro a h)
       refine s_pick hF h rfl rfl rfl (by decide) ?_
       clear h; intro a h
       first | refine cEt0 ?_ | refine cE0 ?_
       with_reducible repeat (first | refine xa0 ?_ | refine xb0 ?_ | refine xc0 ?_ | refine xd0 ?_ | refine xe0 (by decide) ?_ | refine xf0 ?_ | refine xg0 ?_ | refine xh0 ?_ | refine xi0 ?_)
       exact ⟨(h.sub (by repeat (first | exact trivial | refine ⟨rfl, ?_⟩))), H.sub (.cons_cons _ (.cons _ (.refl _)))⟩
     · have hn2 := hn1 (by omega)
       repeat refine cS0 ?_
       refine cR0 ?_
       refine iL0 hF h H rfl rfl (by repeat (first | exact mh1 | apply mt1 | apply ma1)) (by exact rfl) (by decide) ?_
       clear h; intro a h
       (first | (refine iC0 hF h rfl rfl rfl (i_eql_t (by omega)) (by decide) ?_) | (refine iC0 hF h rfl rfl rfl (i_eql_f (by omega)) (by decide) ?_))
       clear h; intro a h
       refine sM0 hF h rfl rfl (by decide) ?_
       clear h; intro a h
       first | (refine sK0 hF h rfl (by decide) ?_; clear h; intro a h) | (refine iL0 hF h H rfl rfl (by repeat (first | exact mh1 | apply mt1 | apply ma1)) (by exact rfl) (by decide) ?_; clear h; intro a h)
       first | (refine sK0 hF h rfl (by decide) ?_; clear h; intro a h) | (refine iL0 hF h H rfl rfl (by repeat (first | exact mh1 | apply mt1 | apply ma1)) (by exact rfl) (by decide) ?_; clear h; intro a h)
       first | (refine sK0 hF h rfl (by decide) ?_; clear h; intro a h) | (refine i_lenB hF h rfl rfl (hO H (by repeat (first | exact List.sublist_append_left _ _ | apply List.Sublist.cons | apply la1))) (by decide) ?_; clear h; intro a h)
       first | (refine sK0 hF h rfl (by decide) ?_; clear h; intro a h) | (refine iL0 hF h H rfl rfl (by repeat (first | exact mh1 | apply mt1 | apply ma1)) (by exact rfl) (by decide) ?_; clear h; intro a h)
       first | (refine sK0 hF h rfl (by decide) ?_; clear h; intro a h) | (refine i_max hF h rfl rfl rfl (by decide) ?_; clear h; intro a h)
       first | (refine sK0 hF h rfl (by decide) ?_; clear h; intro a h) | (refine i_min hF h rfl rfl rfl (by decide) ?_; clear h; intro a h)
       first | (refine sK0 hF h rfl (by decide) ?_; clear h; intro a h) | ((first | (refine iC0 hF h rfl rfl rfl (i_neq_t (by omega)) (by decide) ?_) | (refine iC0 hF h rfl rfl rfl (i_neq_f (by omega)) (by decide) ?_)); clear h; intro a h)
       refine s_pick hF h rfl rfl rfl (by decide) ?_
       clear h; intro a h
       refine sM0 hF h rfl rfl (by decide) ?_
       clear h; intro a h
       first | (refine sK0 hF h rfl (by decide) ?_; clear h; intro a h) | (refine iL0 hF h H rfl rfl (by repeat (first | exact mh1 | apply mt1 | apply ma1)) (by exact rfl) (by decide) ?_; clear h; intro a h)
       first | (refine sK0 hF h rfl (by decide) ?_; clear h; intro a h) | ((first | (refine iC0 hF h rfl rfl rfl (i_eql_t (by omega)) (by decide) ?_) | (refine iC0 hF h rfl rfl rfl (i_eql_f (by omega)) (by decide) ?_)); clear h; intro a h)
       first | (refine sK0 hF h rfl (by decide) ?_; clear h; intro a h) | (refine sM0 hF h rfl rfl (by decide) ?_; clear h; intro a h)
       first | (refine sK0 hF h rfl (by decide) ?_; clear h; intro a h) | (refine iL0 hF h H rfl rfl (by repeat (first | exact mh1 | apply mt1 | apply ma1)) (by exact rfl) (by decide) ?_; clear h; intro a h)
       first | (refine sK0 hF h rfl (by decide) ?_; clear h; intro a h) | (refine iL0 hF h H rfl rfl (by repeat (first | exact mh1 | apply mt1 | apply ma1)) (by exact rfl) (by decide) ?_; clear h; intro a h)
       first | (refine sK0 hF h rfl (by decide) ?_; clear h; intro a h) | (refine i_lenB hF h rfl rfl (hO H (by repeat (first | exact List.sublist_append_left _ _ | apply List.Sublist.cons | apply la1))) (by decide) ?_; clear h; intro a h)
       first | (refine sK0 hF h rfl (by decide) ?_; clear h; intro a h) | ((first | (refine iC0 hF h rfl rfl rfl (i_neq_t (by omega)) (by decide) ?_) | (refine iC0 hF h rfl rfl rfl (i_neq_f (by omega)) (by decide) ?_)); clear h; intro a h)
       first | (refine sK0 hF h rfl (by decide) ?_; clear h; intro a h) | (refine s_pick hF h rfl rfl rfl (by decide) ?_; clear h; intro a h)
       refine s_pick hF h rfl rfl rfl (by decide) ?_
       clear h; intro a h
       first | refine cEt0 ?_ | refine cE0 ?_
       with_reducible repeat (first | refine xa0 ?_ | refine xb0 ?_ | refine xc0 ?_ | refine xd0 ?_ | refine xe0 (by decide) ?_ | refine xf0 ?_ | refine xg0 ?_ | refine xh0 ?_ | refine xi0 ?_)
       exact ⟨(h.sub (by repeat (first | exact trivial | refine ⟨rfl, ?_⟩))), H.sub (.cons_cons _ (.cons _ (.refl _)))⟩
   clear h H
   rintro a w ⟨h, H⟩
   repeat refine cS0 ?_
   refine c_condF h rfl ?_
   refine cK0 ?_
   with_reducible repeat (first | refine xa0 ?_ | refine xb0 ?_ | refine xc0 ?_ | refine xd0 ?_ | refine xe0 (by decide) ?_ | refine xf0 ?_ | refine xg0 ?_ | refine xh0 ?_ | refine xi0 ?_)
   repeat refine cS0 ?_
   refine cR0 ?_
   refine iL0 hF h H rfl rfl (by repeat (first | exact mh1 | apply mt1 | apply ma1)) (by exact rfl) (by decide) ?_
   clear h; intro a h
   first | refine cEt0 ?_ | refine cE0 ?_
   repeat refine cS0 ?_
   refine cR0 ?_
   refine i_alloc hF h H rfl (by decide) ?_
   clear h H; intro a w b7 _ h H
   refine jS0 hF h H rfl rfl rfl rfl (by repeat (first | exact Upd.here | apply Upd.there | apply Upd.app)) (by repeat (first | exact SetAt.zero | apply SetAt.succ)) ?_
   clear H; intro w H
   first | refine cEt0 ?_ | refine cE0 ?_
   repeat refine cS0 ?_
   refine cR0 ?_
   refine iL0 hF h H rfl rfl (by repeat (first | exact mh1 | apply mt1 | apply ma1)) (by exact rfl) (by decide) ?_
   clear h; intro a h
   refine i_ar64 hF h rfl rfl rfl rfl (by omega) (by omega) (by decide) ?_
   clear h; intro a h
   refine jS0 hF h H rfl rfl rfl rfl (by repeat (first | exact Upd.here | apply Upd.there | apply Upd.app)) (by repeat (first | exact SetAt.zero | apply SetAt.succ)) ?_
   clear H; intro w H
   refine cE0 ?_
   have e1 : (turn : Int) + 1 = ((turn + 1 : Nat) : Int) := by omega
   rw [e1] at H
   refine ⟨2 - (turn + 1), by omega, turn + 1, _, D :: Ds, rfl, by omega, (h.sub (by repeat (first | exact trivial | refine ⟨rfl, ?_⟩))), ?_⟩
   refine St.newIn (R := dblocks (D :: Ds)) (H.sub ?_)
   exact .cons_cons _ (.cons_cons _ (.append (.refl _) (.cons _ (.refl _))))
 · repeat refine cS0 ?_
   refine cR0 ?_
   refine iL0 hF h H rfl rfl (by repeat (first | exact mh1 | apply mt1 | apply ma1)) (by exact rfl) (by decide) ?_
   clear h; intro a h
   (first | (refine iC0 hF h rfl rfl rfl (i_lss_t (by omega)) (by decide) ?_) | (refine iC0 hF h rfl rfl rfl (i_lss_f (by omega)) (by decide) ?_))
   clear h; intro a h
   first | refine cEt0 ?_ | refine cE0 ?_
   repeat refine cS0 ?_
   refine c_condF h rfl ?_
   refine c_exit ?_
   with_reducible repeat (first | refine xa0 ?_ | refine xb0 ?_ | refine xc0 ?_ | refine xd0 ?_ | refine xe0 (by decide) ?_ | refine xf0 ?_ | refine xg0 ?_ | refine xh0 ?_ | refine xi0 ?_)
   repeat refine cS0 ?_
   refine cR0 ?_
   refine i_call hF h rfl (works_ret _) rfl (by decide) ?_
   clear h; rintro _ w ⟨rfl, hb⟩ a h; replace H := H.call hb; clear hb
   refine jS0 hF h H rfl rfl rfl rfl (by repeat (first | exact Upd.here | apply Upd.there | apply Upd.app)) (by repeat (first | exact SetAt.zero | apply SetAt.succ)) ?_
   clear H; intro w H
   first | refine cEt0 ?_ | refine cE0 ?_
   refine c_ret ?_
   with_reducible repeat (first | refine xa0 ?_ | refine xb0 ?_ | refine xc0 ?_ | refine xd0 ?_ | refine xe0 (by decide) ?_ | refine xf0 ?_ | refine xg0 ?_ | refine xh0 ?_ | refine xi0 ?_)
   refine leaveM (Ds := Ds) (fn := Tryz.f3) Tryz.results3 h H (fun w' H' => .own rfl H' (by repeat (first | exact mh1 | apply mt1 | apply ma1)) rfl .nil) (fun w' H' => ⟨_, rfl, rfl, H'.done⟩)
end Go.Proofs.YtjlmpghcjgbfjaaGreatDoor.Cw
