/-
  A part of the proofs of this seat: the executor (one law an operation), the plain laws of code and its text, and the walks of the functions that are reached: Rf4 Rf5 Rf6 Rf7 Rf8 Rf9 Pa3 Pa4 Pa5 Rf10 Pa6.
-/
import Derived.Test.YtjlmpghcjgbfjaaGreatDoorK4
namespace Go.Proofs.YtjlmpghcjgbfjaaGreatDoor.Cw
open Go Go.RowKit Go.Proofs Ex Cd
set_option maxRecDepth 100000
theorem fam_info (op : Nat) (ho : op < 256) (x : Info) (h : fam op = some x) : info op = some x := by
 have := upto (fun op => match fam op with | some x => decide (info op = some x) | none => true) 256 (by decide +kernel) op ho
 simp only [h] at this
 exact of_decide_eq_true this
theorem info_thirds (op : Nat) (ho : op < 256) (h : fam op = none) : (match lowI op with | some x => decide (info op = some x ∧ x.1 ≠ []) | none => match midI op with | some x => decide (info op = some x ∧ x.1 ≠ []) | none => decide (info op = highI op)) = true := by
 have := upto (fun op => match fam op with | some _ => true | none => (match lowI op with | some x => decide (info op = some x ∧ x.1 ≠ []) | none => match midI op with | some x => decide (info op = some x ∧ x.1 ≠ []) | none => decide (info op = highI op))) 256 (by decide +kernel) op ho
 simp only [h] at this
 exact this
theorem rinfo_ret (x : UInt8) (w0 : World) : Rets Tryz.prog 20 [byt x] w0 fun v w' => v = .agg (cellsI ((info x.toNat).getD noneI)).toArray ∧ Below w0.heap.size w0 w' := by
 have hxl := x.toNat_lt
 refine enter Tryz.func20 rfl (Nat.le_of_ble_eq_true rfl) ?_
 intro a h; rw [Tryz.ntmps20] at h
 have hF := Fd.wide; have H := St.begin w0
 repeat refine cS0 ?_
 refine cR0 ?_
 refine i_alloc hF h H rfl (by decide) ?_
 clear h H; intro a w b2 _ h H
 first | refine cEt0 ?_ | refine cE0 ?_
 repeat refine cS0 ?_
 refine cR0 ?_
 refine sM0 hF h rfl rfl (by decide) ?_
 clear h; intro a h
 refine i_convByte hF h rfl rfl (by decide) ?_ (by decide)
 clear h; intro a h
 refine sA0 hF h rfl rfl (by decide) ?_
 clear h; intro a h
 first | refine cEt0 ?_ | refine cE0 ?_
 repeat refine cS0 ?_
 refine c_join (fun a' w' => fam x.toNat = none ∧ Fr 90 [] [(2, ptr b2 0), (0, byt x)] a' ∧ St w0.heap.size w0 [(b2, .cells (cellsI noneI).toArray 42 (0, 0))] w') ?_ ?_
 · refine c_block ?_
   by_cases h1 : x.toNat < 96
   · repeat refine cS0 ?_
     refine cR0 ?_
     refine sM0 hF h rfl rfl (by decide) ?_
     clear h; intro a h
     (first | (refine iC0 hF h rfl rfl rfl (i_geq_t (by omega)) (by decide) ?_) | (refine iC0 hF h rfl rfl rfl (i_geq_f (by omega)) (by decide) ?_))
     clear h; intro a h
     refine sM0 hF h rfl rfl (by decide) ?_
     clear h; intro a h
     first | (refine sK0 hF h rfl (by decide) ?_; clear h; intro a h) | (refine sM0 hF h rfl rfl (by decide) ?_; clear h; intro a h)
     first | (refine sK0 hF h rfl (by decide) ?_; clear h; intro a h) | ((first | (refine iC0 hF h rfl rfl rfl (i_leq_t (by omega)) (by decide) ?_) | (refine iC0 hF h rfl rfl rfl (i_leq_f (by omega)) (by decide) ?_)); clear h; intro a h)
     refine s_pick hF h rfl rfl rfl (by decide) ?_
     clear h; intro a h
     refine sA0 hF h rfl rfl (by decide) ?_
     clear h; intro a h
     first | refine cEt0 ?_ | refine cE0 ?_
     repeat refine cS0 ?_
     refine c_condF h rfl ?_
     repeat refine cS0 ?_
     refine cR0 ?_
     refine sM0 hF h rfl rfl (by decide) ?_
     clear h; intro a h
     (first | (refine iC0 hF h rfl rfl rfl (i_geq_t (by omega)) (by decide) ?_) | (refine iC0 hF h rfl rfl rfl (i_geq_f (by omega)) (by decide) ?_))
     clear h; intro a h
     refine sM0 hF h rfl rfl (by decide) ?_
     clear h; intro a h
     first | (refine sK0 hF h rfl (by decide) ?_; clear h; intro a h) | (refine sM0 hF h rfl rfl (by decide) ?_; clear h; intro a h)
     first | (refine sK0 hF h rfl (by decide) ?_; clear h; intro a h) | ((first | (refine iC0 hF h rfl rfl rfl (i_leq_t (by omega)) (by decide) ?_) | (refine iC0 hF h rfl rfl rfl (i_leq_f (by omega)) (by decide) ?_)); clear h; intro a h)
     refine s_pick hF h rfl rfl rfl (by decide) ?_
     clear h; intro a h
     refine sA0 hF h rfl rfl (by decide) ?_
     clear h; intro a h
     first | refine cEt0 ?_ | refine cE0 ?_
     repeat refine cS0 ?_
     refine c_condF h rfl ?_
     repeat refine cS0 ?_
     refine cR0 ?_
     refine sM0 hF h rfl rfl (by decide) ?_
     clear h; intro a h
     (first | (refine iC0 hF h rfl rfl rfl (i_geq_t (by omega)) (by decide) ?_) | (refine iC0 hF h rfl rfl rfl (i_geq_f (by omega)) (by decide) ?_))
     clear h; intro a h
     refine sM0 hF h rfl rfl (by decide) ?_
     clear h; intro a h
     first | (refine sK0 hF h rfl (by decide) ?_; clear h; intro a h) | (refine sM0 hF h rfl rfl (by decide) ?_; clear h; intro a h)
     first | (refine sK0 hF h rfl (by decide) ?_; clear h; intro a h) | ((first | (refine iC0 hF h rfl rfl rfl (i_leq_t (by omega)) (by decide) ?_) | (refine iC0 hF h rfl rfl rfl (i_leq_f (by omega)) (by decide) ?_)); clear h; intro a h)
     refine s_pick hF h rfl rfl rfl (by decide) ?_
     clear h; intro a h
     refine sA0 hF h rfl rfl (by decide) ?_
     clear h; intro a h
     first | refine cEt0 ?_ | refine cE0 ?_
     repeat refine cS0 ?_
     refine c_condF h rfl ?_
     repeat refine cS0 ?_
     refine cR0 ?_
     refine sM0 hF h rfl rfl (by decide) ?_
     clear h; intro a h
     (first | (refine iC0 hF h rfl rfl rfl (i_geq_t (by omega)) (by decide) ?_) | (refine iC0 hF h rfl rfl rfl (i_geq_f (by omega)) (by decide) ?_))
     clear h; intro a h
     refine sM0 hF h rfl rfl (by decide) ?_
     clear h; intro a h
     first | (refine sK0 hF h rfl (by decide) ?_; clear h; intro a h) | (refine sM0 hF h rfl rfl (by decide) ?_; clear h; intro a h)
     first | (refine sK0 hF h rfl (by decide) ?_; clear h; intro a h) | ((first | (refine iC0 hF h rfl rfl rfl (i_leq_t (by omega)) (by decide) ?_) | (refine iC0 hF h rfl rfl rfl (i_leq_f (by omega)) (by decide) ?_)); clear h; intro a h)
     refine s_pick hF h rfl rfl rfl (by decide) ?_
     clear h; intro a h
     refine sA0 hF h rfl rfl (by decide) ?_
     clear h; intro a h
     first | refine cEt0 ?_ | refine cE0 ?_
     repeat refine cS0 ?_
     refine c_condF h rfl ?_
     refine cK0 ?_
     with_reducible repeat (first | refine xa0 ?_ | refine xb0 ?_ | refine xc0 ?_ | refine xd0 ?_ | refine xe0 (by decide) ?_ | refine xf0 ?_ | refine xg0 ?_ | refine xh0 ?_ | refine xi0 ?_)
     exact ⟨by unfold fam; rw [if_neg (by omega), if_neg (by omega), if_neg (by omega), if_neg (by omega)], (h.sub (by repeat (first | exact trivial | refine ⟨rfl, ?_⟩))), H⟩
   by_cases h2 : x.toNat ≤ 127
   · have hlen : (dec (x.toNat - 95)).length ≤ 2 := by unfold dec; split <;> simp
     repeat refine cS0 ?_
     refine cR0 ?_
     refine sM0 hF h rfl rfl (by decide) ?_
     clear h; intro a h
     (first | (refine iC0 hF h rfl rfl rfl (i_geq_t (by omega)) (by decide) ?_) | (refine iC0 hF h rfl rfl rfl (i_geq_f (by omega)) (by decide) ?_))
     clear h; intro a h
     refine sM0 hF h rfl rfl (by decide) ?_
     clear h; intro a h
     first | (refine sK0 hF h rfl (by decide) ?_; clear h; intro a h) | (refine sM0 hF h rfl rfl (by decide) ?_; clear h; intro a h)
     first | (refine sK0 hF h rfl (by decide) ?_; clear h; intro a h) | ((first | (refine iC0 hF h rfl rfl rfl (i_leq_t (by omega)) (by decide) ?_) | (refine iC0 hF h rfl rfl rfl (i_leq_f (by omega)) (by decide) ?_)); clear h; intro a h)
     refine s_pick hF h rfl rfl rfl (by decide) ?_
     clear h; intro a h
     refine sA0 hF h rfl rfl (by decide) ?_
     clear h; intro a h
     first | refine cEt0 ?_ | refine cE0 ?_
     repeat refine cS0 ?_
     refine c_condT h rfl ?_
     repeat refine cS0 ?_
     refine cR0 ?_
     refine sM0 hF h rfl rfl (by decide) ?_
     clear h; intro a h
     refine i_ar64 hF h rfl rfl rfl rfl (by omega) (by omega) (by decide) ?_
     clear h; intro a h
     rw [show ((x.toNat : Nat) : Int) - 95 = ((x.toNat - 95 : Nat) : Int) by omega] at h
     refine i_conv hF h rfl rfl (wrapTo _ _ (by simp only [IntKind.min, IntKind.signed, IntKind.bits, Bool.false_eq_true, if_false]; omega) (by simp only [IntKind.max, IntKind.signed, IntKind.bits, Bool.false_eq_true, if_false]; omega)) (by decide) ?_
     clear h; intro a h
     refine i_call hF h rfl (number_ret (x.toNat - 95) (by omega) _) rfl (by decide) ?_
     clear h; rintro _ w ⟨rfl, hb⟩ a h; replace H := H.call hb; clear hb
     refine i_addS hF h rfl rfl rfl (by first | omega | (simp only [List.length_cons, List.length_nil]; omega)) (by decide) ?_
     clear h; intro a h
     refine sM0 hF h rfl rfl (by decide) ?_
     clear h; intro a h
     refine i_ar64 hF h rfl rfl rfl rfl (by omega) (by omega) (by decide) ?_
     clear h; intro a h
     rw [show ((x.toNat : Nat) : Int) - 95 = ((x.toNat - 95 : Nat) : Int) by omega] at h
     refine i_build hF h rfl rfl rfl (by decide) ?_
     clear h; intro a h
     refine j_storeA hF h H rfl rfl rfl rfl rfl (by repeat (first | exact Upd.here | apply Upd.there | apply Upd.app)) (by repeat (first | exact PutAt.nil | apply PutAt.put | apply PutAt.skip)) ?_
     clear H; intro w H
     first | refine cEt0 ?_ | refine cE0 ?_
     refine c_ret ?_
     with_reducible repeat (first | refine xa0 ?_ | refine xb0 ?_ | refine xc0 ?_ | refine xd0 ?_ | refine xe0 (by decide) ?_ | refine xf0 ?_ | refine xg0 ?_ | refine xh0 ?_ | refine xi0 ?_)
     refine leave (fn := Tryz.f20) h Tryz.results20 (.ownA rfl H (by repeat (first | exact mh1 | apply mt1 | apply ma1)) (by repeat (first | exact Seg.nil | apply Seg.take | apply Seg.skip)) (.nil)) ?_
     have hi := fam_info x.toNat hxl _ (show fam x.toNat = some _ by unfold fam; rw [if_pos ⟨by omega, by omega⟩])
     exact ⟨_, rfl, by rw [hi]; rfl, H.done⟩
   by_cases h3 : x.toNat ≤ 143
   · have hlen : (dec (x.toNat - 127)).length ≤ 2 := by unfold dec; split <;> simp
     repeat refine cS0 ?_
     refine cR0 ?_
     refine sM0 hF h rfl rfl (by decide) ?_
     clear h; intro a h
     (first | (refine iC0 hF h rfl rfl rfl (i_geq_t (by omega)) (by decide) ?_) | (refine iC0 hF h rfl rfl rfl (i_geq_f (by omega)) (by decide) ?_))
     clear h; intro a h
     refine sM0 hF h rfl rfl (by decide) ?_
     clear h; intro a h
     first | (refine sK0 hF h rfl (by decide) ?_; clear h; intro a h) | (refine sM0 hF h rfl rfl (by decide) ?_; clear h; intro a h)
     first | (refine sK0 hF h rfl (by decide) ?_; clear h; intro a h) | ((first | (refine iC0 hF h rfl rfl rfl (i_leq_t (by omega)) (by decide) ?_) | (refine iC0 hF h rfl rfl rfl (i_leq_f (by omega)) (by decide) ?_)); clear h; intro a h)
     refine s_pick hF h rfl rfl rfl (by decide) ?_
     clear h; intro a h
     refine sA0 hF h rfl rfl (by decide) ?_
     clear h; intro a h
     first | refine cEt0 ?_ | refine cE0 ?_
     repeat refine cS0 ?_
     refine c_condF h rfl ?_
     repeat refine cS0 ?_
     refine cR0 ?_
     refine sM0 hF h rfl rfl (by decide) ?_
     clear h; intro a h
     (first | (refine iC0 hF h rfl rfl rfl (i_geq_t (by omega)) (by decide) ?_) | (refine iC0 hF h rfl rfl rfl (i_geq_f (by omega)) (by decide) ?_))
     clear h; intro a h
     refine sM0 hF h rfl rfl (by decide) ?_
     clear h; intro a h
     first | (refine sK0 hF h rfl (by decide) ?_; clear h; intro a h) | (refine sM0 hF h rfl rfl (by decide) ?_; clear h; intro a h)
     first | (refine sK0 hF h rfl (by decide) ?_; clear h; intro a h) | ((first | (refine iC0 hF h rfl rfl rfl (i_leq_t (by omega)) (by decide) ?_) | (refine iC0 hF h rfl rfl rfl (i_leq_f (by omega)) (by decide) ?_)); clear h; intro a h)
     refine s_pick hF h rfl rfl rfl (by decide) ?_
     clear h; intro a h
     refine sA0 hF h rfl rfl (by decide) ?_
     clear h; intro a h
     first | refine cEt0 ?_ | refine cE0 ?_
     repeat refine cS0 ?_
     refine c_condT h rfl ?_
     repeat refine cS0 ?_
     refine cR0 ?_
     refine sM0 hF h rfl rfl (by decide) ?_
     clear h; intro a h
     refine i_ar64 hF h rfl rfl rfl rfl (by omega) (by omega) (by decide) ?_
     clear h; intro a h
     rw [show ((x.toNat : Nat) : Int) - 127 = ((x.toNat - 127 : Nat) : Int) by omega] at h
     refine i_conv hF h rfl rfl (wrapTo _ _ (by simp only [IntKind.min, IntKind.signed, IntKind.bits, Bool.false_eq_true, if_false]; omega) (by simp only [IntKind.max, IntKind.signed, IntKind.bits, Bool.false_eq_true, if_false]; omega)) (by decide) ?_
     clear h; intro a h
     refine i_call hF h rfl (number_ret (x.toNat - 127) (by omega) _) rfl (by decide) ?_
     clear h; rintro _ w ⟨rfl, hb⟩ a h; replace H := H.call hb; clear hb
     refine i_addS hF h rfl rfl rfl (by first | omega | (simp only [List.length_cons, List.length_nil]; omega)) (by decide) ?_
     clear h; intro a h
     refine sM0 hF h rfl rfl (by decide) ?_
     clear h; intro a h
     refine i_ar64 hF h rfl rfl rfl rfl (by omega) (by omega) (by decide) ?_
     clear h; intro a h
     refine sM0 hF h rfl rfl (by decide) ?_
     clear h; intro a h
     refine i_ar64 hF h rfl rfl rfl rfl (by omega) (by omega) (by decide) ?_
     clear h; intro a h
     rw [show ((x.toNat : Nat) : Int) - 127 = ((x.toNat - 127 : Nat) : Int) by omega, show ((x.toNat : Nat) : Int) - 126 = ((x.toNat - 126 : Nat) : Int) by omega] at h
     refine i_build hF h rfl rfl rfl (by decide) ?_
     clear h; intro a h
     refine j_storeA hF h H rfl rfl rfl rfl rfl (by repeat (first | exact Upd.here | apply Upd.there | apply Upd.app)) (by repeat (first | exact PutAt.nil | apply PutAt.put | apply PutAt.skip)) ?_
     clear H; intro w H
     first | refine cEt0 ?_ | refine cE0 ?_
     refine c_ret ?_
     with_reducible repeat (first | refine xa0 ?_ | refine xb0 ?_ | refine xc0 ?_ | refine xd0 ?_ | refine xe0 (by decide) ?_ | refine xf0 ?_ | refine xg0 ?_ | refine xh0 ?_ | refine xi0 ?_)
     refine leave (fn := Tryz.f20) h Tryz.results20 (.ownA rfl H (by repeat (first | exact mh1 | apply mt1 | apply ma1)) (by repeat (first | exact Seg.nil | apply Seg.take | apply Seg.skip)) (.nil)) ?_
     have hi := fam_info x.toNat hxl _ (show fam x.toNat = some _ by unfold fam; rw [if_neg (by omega), if_pos ⟨by omega, by omega⟩])
     exact ⟨_, rfl, by rw [hi]; rfl, H.done⟩
   by_cases h4 : x.toNat ≤ 159
   · have hlen : (dec (x.toNat - 143)).length ≤ 2 := by unfold dec; split <;> simp
     repeat refine cS0 ?_
     refine cR0 ?_
     refine sM0 hF h rfl rfl (by decide) ?_
     clear h; intro a h
     (first | (refine iC0 hF h rfl rfl rfl (i_geq_t (by omega)) (by decide) ?_) | (refine iC0 hF h rfl rfl rfl (i_geq_f (by omega)) (by decide) ?_))
     clear h; intro a h
     refine sM0 hF h rfl rfl (by decide) ?_
     clear h; intro a h
     first | (refine sK0 hF h rfl (by decide) ?_; clear h; intro a h) | (refine sM0 hF h rfl rfl (by decide) ?_; clear h; intro a h)
     first | (refine sK0 hF h rfl (by decide) ?_; clear h; intro a h) | ((first | (refine iC0 hF h rfl rfl rfl (i_leq_t (by omega)) (by decide) ?_) | (refine iC0 hF h rfl rfl rfl (i_leq_f (by omega)) (by decide) ?_)); clear h; intro a h)
     refine s_pick hF h rfl rfl rfl (by decide) ?_
     clear h; intro a h
     refine sA0 hF h rfl rfl (by decide) ?_
     clear h; intro a h
     first | refine cEt0 ?_ | refine cE0 ?_
     repeat refine cS0 ?_
     refine c_condF h rfl ?_
     repeat refine cS0 ?_
     refine cR0 ?_
     refine sM0 hF h rfl rfl (by decide) ?_
     clear h; intro a h
     (first | (refine iC0 hF h rfl rfl rfl (i_geq_t (by omega)) (by decide) ?_) | (refine iC0 hF h rfl rfl rfl (i_geq_f (by omega)) (by decide) ?_))
     clear h; intro a h
     refine sM0 hF h rfl rfl (by decide) ?_
     clear h; intro a h
     first | (refine sK0 hF h rfl (by decide) ?_; clear h; intro a h) | (refine sM0 hF h rfl rfl (by decide) ?_; clear h; intro a h)
     first | (refine sK0 hF h rfl (by decide) ?_; clear h; intro a h) | ((first | (refine iC0 hF h rfl rfl rfl (i_leq_t (by omega)) (by decide) ?_) | (refine iC0 hF h rfl rfl rfl (i_leq_f (by omega)) (by decide) ?_)); clear h; intro a h)
     refine s_pick hF h rfl rfl rfl (by decide) ?_
     clear h; intro a h
     refine sA0 hF h rfl rfl (by decide) ?_
     clear h; intro a h
     first | refine cEt0 ?_ | refine cE0 ?_
     repeat refine cS0 ?_
     refine c_condF h rfl ?_
     repeat refine cS0 ?_
     refine cR0 ?_
     refine sM0 hF h rfl rfl (by decide) ?_
     clear h; intro a h
     (first | (refine iC0 hF h rfl rfl rfl (i_geq_t (by omega)) (by decide) ?_) | (refine iC0 hF h rfl rfl rfl (i_geq_f (by omega)) (by decide) ?_))
     clear h; intro a h
     refine sM0 hF h rfl rfl (by decide) ?_
     clear h; intro a h
     first | (refine sK0 hF h rfl (by decide) ?_; clear h; intro a h) | (refine sM0 hF h rfl rfl (by decide) ?_; clear h; intro a h)
     first | (refine sK0 hF h rfl (by decide) ?_; clear h; intro a h) | ((first | (refine iC0 hF h rfl rfl rfl (i_leq_t (by omega)) (by decide) ?_) | (refine iC0 hF h rfl rfl rfl (i_leq_f (by omega)) (by decide) ?_)); clear h; intro a h)
     refine s_pick hF h rfl rfl rfl (by decide) ?_
     clear h; intro a h
     refine sA0 hF h rfl rfl (by decide) ?_
     clear h; intro a h
     first | refine cEt0 ?_ | refine cE0 ?_
     repeat refine cS0 ?_
     refine c_condT h rfl ?_
     repeat refine cS0 ?_
     refine cR0 ?_
     refine sM0 hF h rfl rfl (by decide) ?_
     clear h; intro a h
     refine i_ar64 hF h rfl rfl rfl rfl (by omega) (by omega) (by decide) ?_
     clear h; intro a h
     rw [show ((x.toNat : Nat) : Int) - 143 = ((x.toNat - 143 : Nat) : Int) by omega] at h
     refine i_conv hF h rfl rfl (wrapTo _ _ (by simp only [IntKind.min, IntKind.signed, IntKind.bits, Bool.false_eq_true, if_false]; omega) (by simp only [IntKind.max, IntKind.signed, IntKind.bits, Bool.false_eq_true, if_false]; omega)) (by decide) ?_
     clear h; intro a h
     refine i_call hF h rfl (number_ret (x.toNat - 143) (by omega) _) rfl (by decide) ?_
     clear h; rintro _ w ⟨rfl, hb⟩ a h; replace H := H.call hb; clear hb
     refine i_addS hF h rfl rfl rfl (by first | omega | (simp only [List.length_cons, List.length_nil]; omega)) (by decide) ?_
     clear h; intro a h
     refine sM0 hF h rfl rfl (by decide) ?_
     clear h; intro a h
     refine i_ar64 hF h rfl rfl rfl rfl (by omega) (by omega) (by decide) ?_
     clear h; intro a h
     refine sM0 hF h rfl rfl (by decide) ?_
     clear h; intro a h
     refine i_ar64 hF h rfl rfl rfl rfl (by omega) (by omega) (by decide) ?_
     clear h; intro a h
     rw [show ((x.toNat : Nat) : Int) - 142 = ((x.toNat - 142 : Nat) : Int) by omega] at h
     refine i_build hF h rfl rfl rfl (by decide) ?_
     clear h; intro a h
     refine j_storeA hF h H rfl rfl rfl rfl rfl (by repeat (first | exact Upd.here | apply Upd.there | apply Upd.app)) (by repeat (first | exact PutAt.nil | apply PutAt.put | apply PutAt.skip)) ?_
     clear H; intro w H
     first | refine cEt0 ?_ | refine cE0 ?_
     refine c_ret ?_
     with_reducible repeat (first | refine xa0 ?_ | refine xb0 ?_ | refine xc0 ?_ | refine xd0 ?_ | refine xe0 (by decide) ?_ | refine xf0 ?_ | refine xg0 ?_ | refine xh0 ?_ | refine xi0 ?_)
     refine leave (fn := Tryz.f20) h Tryz.results20 (.ownA rfl H (by repeat (first | exact mh1 | apply mt1 | apply ma1)) (by repeat (first | exact Seg.nil | apply Seg.take | apply Seg.skip)) (.nil)) ?_
     have hi := fam_info x.toNat hxl _ (show fam x.toNat = some _ by unfold fam; rw [if_neg (by omega), if_neg (by omega), if_pos ⟨by omega, by omega⟩])
     exact ⟨_, rfl, by rw [hi]; rfl, H.done⟩
   by_cases h5 : x.toNat ≤ 164
   · have hlen : (dec (x.toNat - 160)).length ≤ 2 := by unfold dec; split <;> simp
     repeat refine cS0 ?_
     refine cR0 ?_
     refine sM0 hF h rfl rfl (by decide) ?_
     clear h; intro a h
     (first | (refine iC0 hF h rfl rfl rfl (i_geq_t (by omega)) (by decide) ?_) | (refine iC0 hF h rfl rfl rfl (i_geq_f (by omega)) (by decide) ?_))
     clear h; intro a h
     refine sM0 hF h rfl rfl (by decide) ?_
     clear h; intro a h
     first | (refine sK0 hF h rfl (by decide) ?_; clear h; intro a h) | (refine sM0 hF h rfl rfl (by decide) ?_; clear h; intro a h)
     first | (refine sK0 hF h rfl (by decide) ?_; clear h; intro a h) | ((first | (refine iC0 hF h rfl rfl rfl (i_leq_t (by omega)) (by decide) ?_) | (refine iC0 hF h rfl rfl rfl (i_leq_f (by omega)) (by decide) ?_)); clear h; intro a h)
     refine s_pick hF h rfl rfl rfl (by decide) ?_
     clear h; intro a h
     refine sA0 hF h rfl rfl (by decide) ?_
     clear h; intro a h
     first | refine cEt0 ?_ | refine cE0 ?_
     repeat refine cS0 ?_
     refine c_condF h rfl ?_
     repeat refine cS0 ?_
     refine cR0 ?_
     refine sM0 hF h rfl rfl (by decide) ?_
     clear h; intro a h
     (first | (refine iC0 hF h rfl rfl rfl (i_geq_t (by omega)) (by decide) ?_) | (refine iC0 hF h rfl rfl rfl (i_geq_f (by omega)) (by decide) ?_))
     clear h; intro a h
     refine sM0 hF h rfl rfl (by decide) ?_
     clear h; intro a h
     first | (refine sK0 hF h rfl (by decide) ?_; clear h; intro a h) | (refine sM0 hF h rfl rfl (by decide) ?_; clear h; intro a h)
     first | (refine sK0 hF h rfl (by decide) ?_; clear h; intro a h) | ((first | (refine iC0 hF h rfl rfl rfl (i_leq_t (by omega)) (by decide) ?_) | (refine iC0 hF h rfl rfl rfl (i_leq_f (by omega)) (by decide) ?_)); clear h; intro a h)
     refine s_pick hF h rfl rfl rfl (by decide) ?_
     clear h; intro a h
     refine sA0 hF h rfl rfl (by decide) ?_
     clear h; intro a h
     first | refine cEt0 ?_ | refine cE0 ?_
     repeat refine cS0 ?_
     refine c_condF h rfl ?_
     repeat refine cS0 ?_
     refine cR0 ?_
     refine sM0 hF h rfl rfl (by decide) ?_
     clear h; intro a h
     (first | (refine iC0 hF h rfl rfl rfl (i_geq_t (by omega)) (by decide) ?_) | (refine iC0 hF h rfl rfl rfl (i_geq_f (by omega)) (by decide) ?_))
     clear h; intro a h
     refine sM0 hF h rfl rfl (by decide) ?_
     clear h; intro a h
     first | (refine sK0 hF h rfl (by decide) ?_; clear h; intro a h) | (refine sM0 hF h rfl rfl (by decide) ?_; clear h; intro a h)
     first | (refine sK0 hF h rfl (by decide) ?_; clear h; intro a h) | ((first | (refine iC0 hF h rfl rfl rfl (i_leq_t (by omega)) (by decide) ?_) | (refine iC0 hF h rfl rfl rfl (i_leq_f (by omega)) (by decide) ?_)); clear h; intro a h)
     refine s_pick hF h rfl rfl rfl (by decide) ?_
     clear h; intro a h
     refine sA0 hF h rfl rfl (by decide) ?_
     clear h; intro a h
     first | refine cEt0 ?_ | refine cE0 ?_
     repeat refine cS0 ?_
     refine c_condF h rfl ?_
     repeat refine cS0 ?_
     refine cR0 ?_
     refine sM0 hF h rfl rfl (by decide) ?_
     clear h; intro a h
     (first | (refine iC0 hF h rfl rfl rfl (i_geq_t (by omega)) (by decide) ?_) | (refine iC0 hF h rfl rfl rfl (i_geq_f (by omega)) (by decide) ?_))
     clear h; intro a h
     refine sM0 hF h rfl rfl (by decide) ?_
     clear h; intro a h
     first | (refine sK0 hF h rfl (by decide) ?_; clear h; intro a h) | (refine sM0 hF h rfl rfl (by decide) ?_; clear h; intro a h)
     first | (refine sK0 hF h rfl (by decide) ?_; clear h; intro a h) | ((first | (refine iC0 hF h rfl rfl rfl (i_leq_t (by omega)) (by decide) ?_) | (refine iC0 hF h rfl rfl rfl (i_leq_f (by omega)) (by decide) ?_)); clear h; intro a h)
     refine s_pick hF h rfl rfl rfl (by decide) ?_
     clear h; intro a h
     refine sA0 hF h rfl rfl (by decide) ?_
     clear h; intro a h
     first | refine cEt0 ?_ | refine cE0 ?_
     repeat refine cS0 ?_
     refine c_condT h rfl ?_
     repeat refine cS0 ?_
     refine cR0 ?_
     refine sM0 hF h rfl rfl (by decide) ?_
     clear h; intro a h
     refine i_ar64 hF h rfl rfl rfl rfl (by omega) (by omega) (by decide) ?_
     clear h; intro a h
     rw [show ((x.toNat : Nat) : Int) - 160 = ((x.toNat - 160 : Nat) : Int) by omega] at h
     refine i_conv hF h rfl rfl (wrapTo _ _ (by simp only [IntKind.min, IntKind.signed, IntKind.bits, Bool.false_eq_true, if_false]; omega) (by simp only [IntKind.max, IntKind.signed, IntKind.bits, Bool.false_eq_true, if_false]; omega)) (by decide) ?_
     clear h; intro a h
     refine i_call hF h rfl (number_ret (x.toNat - 160) (by omega) _) rfl (by decide) ?_
     clear h; rintro _ w ⟨rfl, hb⟩ a h; replace H := H.call hb; clear hb
     refine i_addS hF h rfl rfl rfl (by first | omega | (simp only [List.length_cons, List.length_nil]; omega)) (by decide) ?_
     clear h; intro a h
     refine sM0 hF h rfl rfl (by decide) ?_
     clear h; intro a h
     refine i_ar64 hF h rfl rfl rfl rfl (by omega) (by omega) (by decide) ?_
     clear h; intro a h
     refine sM0 hF h rfl rfl (by decide) ?_
     clear h; intro a h
     refine i_ar64 hF h rfl rfl rfl rfl (by omega) (by omega) (by decide) ?_
     clear h; intro a h
     refine i_conv hF h rfl rfl (wrapTo _ _ (by simp only [IntKind.min, IntKind.signed, IntKind.bits, Bool.false_eq_true, if_false]; omega) (by simp only [IntKind.max, IntKind.signed, IntKind.bits, Bool.false_eq_true, if_false]; omega)) (by decide) ?_
     clear h; intro a h
     refine i_arU64 hF h rfl rfl rfl rfl (by omega) (by omega) (by decide) ?_
     clear h; intro a h
     rw [show ((x.toNat : Nat) : Int) - 158 = ((x.toNat - 158 : Nat) : Int) by omega, show (375 : Int) * (((x.toNat : Nat) : Int) - 159) = ((375 * (x.toNat - 159) : Nat) : Int) by omega] at h
     refine i_build hF h rfl rfl rfl (by decide) ?_
     clear h; intro a h
     refine j_storeA hF h H rfl rfl rfl rfl rfl (by repeat (first | exact Upd.here | apply Upd.there | apply Upd.app)) (by repeat (first | exact PutAt.nil | apply PutAt.put | apply PutAt.skip)) ?_
     clear H; intro w H
     first | refine cEt0 ?_ | refine cE0 ?_
     refine c_ret ?_
     with_reducible repeat (first | refine xa0 ?_ | refine xb0 ?_ | refine xc0 ?_ | refine xd0 ?_ | refine xe0 (by decide) ?_ | refine xf0 ?_ | refine xg0 ?_ | refine xh0 ?_ | refine xi0 ?_)
     refine leave (fn := Tryz.f20) h Tryz.results20 (.ownA rfl H (by repeat (first | exact mh1 | apply mt1 | apply ma1)) (by repeat (first | exact Seg.nil | apply Seg.take | apply Seg.skip)) (.nil)) ?_
     have hi := fam_info x.toNat hxl _ (show fam x.toNat = some _ by unfold fam; rw [if_neg (by omega), if_neg (by omega), if_neg (by omega), if_pos ⟨by omega, by omega⟩])
     exact ⟨_, rfl, by rw [hi]; rfl, H.done⟩
   · repeat refine cS0 ?_
     refine cR0 ?_
     refine sM0 hF h rfl rfl (by decide) ?_
     clear h; intro a h
     (first | (refine iC0 hF h rfl rfl rfl (i_geq_t (by omega)) (by decide) ?_) | (refine iC0 hF h rfl rfl rfl (i_geq_f (by omega)) (by decide) ?_))
     clear h; intro a h
     refine sM0 hF h rfl rfl (by decide) ?_
     clear h; intro a h
     first | (refine sK0 hF h rfl (by decide) ?_; clear h; intro a h) | (refine sM0 hF h rfl rfl (by decide) ?_; clear h; intro a h)
     first | (refine sK0 hF h rfl (by decide) ?_; clear h; intro a h) | ((first | (refine iC0 hF h rfl rfl rfl (i_leq_t (by omega)) (by decide) ?_) | (refine iC0 hF h rfl rfl rfl (i_leq_f (by omega)) (by decide) ?_)); clear h; intro a h)
     refine s_pick hF h rfl rfl rfl (by decide) ?_
     clear h; intro a h
     refine sA0 hF h rfl rfl (by decide) ?_
     clear h; intro a h
     first | refine cEt0 ?_ | refine cE0 ?_
     repeat refine cS0 ?_
     refine c_condF h rfl ?_
     repeat refine cS0 ?_
     refine cR0 ?_
     refine sM0 hF h rfl rfl (by decide) ?_
     clear h; intro a h
     (first | (refine iC0 hF h rfl rfl rfl (i_geq_t (by omega)) (by decide) ?_) | (refine iC0 hF h rfl rfl rfl (i_geq_f (by omega)) (by decide) ?_))
     clear h; intro a h
     refine sM0 hF h rfl rfl (by decide) ?_
     clear h; intro a h
     first | (refine sK0 hF h rfl (by decide) ?_; clear h; intro a h) | (refine sM0 hF h rfl rfl (by decide) ?_; clear h; intro a h)
     first | (refine sK0 hF h rfl (by decide) ?_; clear h; intro a h) | ((first | (refine iC0 hF h rfl rfl rfl (i_leq_t (by omega)) (by decide) ?_) | (refine iC0 hF h rfl rfl rfl (i_leq_f (by omega)) (by decide) ?_)); clear h; intro a h)
     refine s_pick hF h rfl rfl rfl (by decide) ?_
     clear h; intro a h
     refine sA0 hF h rfl rfl (by decide) ?_
     clear h; intro a h
     first | refine cEt0 ?_ | refine cE0 ?_
     repeat refine cS0 ?_
     refine c_condF h rfl ?_
     repeat refine cS0 ?_
     refine cR0 ?_
     refine sM0 hF h rfl rfl (by decide) ?_
     clear h; intro a h
     (first | (refine iC0 hF h rfl rfl rfl (i_geq_t (by omega)) (by decide) ?_) | (refine iC0 hF h rfl rfl rfl (i_geq_f (by omega)) (by decide) ?_))
     clear h; intro a h
     refine sM0 hF h rfl rfl (by decide) ?_
     clear h; intro a h
     first | (refine sK0 hF h rfl (by decide) ?_; clear h; intro a h) | (refine sM0 hF h rfl rfl (by decide) ?_; clear h; intro a h)
     first | (refine sK0 hF h rfl (by decide) ?_; clear h; intro a h) | ((first | (refine iC0 hF h rfl rfl rfl (i_leq_t (by omega)) (by decide) ?_) | (refine iC0 hF h rfl rfl rfl (i_leq_f (by omega)) (by decide) ?_)); clear h; intro a h)
     refine s_pick hF h rfl rfl rfl (by decide) ?_
     clear h; intro a h
     refine sA0 hF h rfl rfl (by decide) ?_
     clear h; intro a h
     first | refine cEt0 ?_ | refine cE0 ?_
     repeat refine cS0 ?_
     refine c_condF h rfl ?_
     repeat refine cS0 ?_
     refine cR0 ?_
     refine sM0 hF h rfl rfl (by decide) ?_
     clear h; intro a h
     (first | (refine iC0 hF h rfl rfl rfl (i_geq_t (by omega)) (by decide) ?_) | (refine iC0 hF h rfl rfl rfl (i_geq_f (by omega)) (by decide) ?_))
     clear h; intro a h
     refine sM0 hF h rfl rfl (by decide) ?_
     clear h; intro a h
     first | (refine sK0 hF h rfl (by decide) ?_; clear h; intro a h) | (refine sM0 hF h rfl rfl (by decide) ?_; clear h; intro a h)
     first | (refine sK0 hF h rfl (by decide) ?_; clear h; intro a h) | ((first | (refine iC0 hF h rfl rfl rfl (i_leq_t (by omega)) (by decide) ?_) | (refine iC0 hF h rfl rfl rfl (i_leq_f (by omega)) (by decide) ?_)); clear h; intro a h)
     refine s_pick hF h rfl rfl rfl (by decide) ?_
     clear h; intro a h
     refine sA0 hF h rfl rfl (by decide) ?_
     clear h; intro a h
     first | refine cEt0 ?_ | refine cE0 ?_
     repeat refine cS0 ?_
     refine c_condF h rfl ?_
     refine cK0 ?_
     with_reducible repeat (first | refine xa0 ?_ | refine xb0 ?_ | refine xc0 ?_ | refine xd0 ?_ | refine xe0 (by decide) ?_ | refine xf0 ?_ | refine xg0 ?_ | refine xh0 ?_ | refine xi0 ?_)
     exact ⟨by unfold fam; rw [if_neg (by omega), if_neg (by omega), if_neg (by omega), if_neg (by omega)], (h.sub (by repeat (first | exact trivial | refine ⟨rfl, ?_⟩))), H⟩
 · clear h H
   rintro a w ⟨hfam, h, H⟩
   have ht := info_thirds x.toNat hxl hfam
   cases hl : lowI x.toNat with
   | some y =>
    rw [hl] at ht
    dsimp only at ht
    obtain ⟨hi, hy⟩ := of_decide_eq_true ht
    repeat refine cS0 ?_
    refine cR0 ?_
    refine sM0 hF h rfl rfl (by decide) ?_
    clear h; intro a h
    refine i_call hF h rfl (low_ret x _) rfl (by decide) ?_
    clear h; rintro _ w ⟨rfl, hb⟩ a h; replace H := H.call hb; clear hb
    refine i_alloc hF h H rfl (by decide) ?_
    clear h H; intro a w b4 _ h H
    refine j_storeA hF h H rfl rfl rfl rfl rfl (by repeat (first | exact Upd.here | apply Upd.there | apply Upd.app)) (by repeat (first | exact PutAt.nil | apply PutAt.put | apply PutAt.skip)) ?_
    clear H; intro w H
    first | refine cEt0 ?_ | refine cE0 ?_
    simp only [hl, Option.getD_some] at h H
    repeat refine cS0 ?_
    refine cR0 ?_
    refine iFa0 hF h rfl rfl rfl (by decide) ?_
    clear h; intro a h; try simp only [Nat.reduceAdd] at h
    refine iL0 hF h H rfl rfl (by repeat (first | exact mh1 | apply mt1 | apply ma1)) (by exact rfl) (by decide) ?_
    clear h; intro a h
    refine i_neS hF h rfl rfl rfl (show (!(y.1 == [])) = true by simpa using hy) (by decide) ?_
    clear h; intro a h
    refine cEt0 ?_
    repeat refine cS0 ?_
    refine c_condT h rfl ?_
    repeat refine cS0 ?_
    refine cR0 ?_
    refine j_loadA hF h H rfl rfl (by repeat (first | exact mh1 | apply mt1 | apply ma1)) (by repeat (first | exact Seg.nil | apply Seg.take | apply Seg.skip)) (by decide) ?_
    clear h; intro a h
    refine j_storeA hF h H rfl rfl rfl rfl rfl (by repeat (first | exact Upd.here | apply Upd.there | apply Upd.app)) (by repeat (first | exact PutAt.nil | apply PutAt.put | apply PutAt.skip)) ?_
    clear H; intro w H
    first | refine cEt0 ?_ | refine cE0 ?_
    refine c_ret ?_
    with_reducible repeat (first | refine xa0 ?_ | refine xb0 ?_ | refine xc0 ?_ | refine xd0 ?_ | refine xe0 (by decide) ?_ | refine xf0 ?_ | refine xg0 ?_ | refine xh0 ?_ | refine xi0 ?_)
    refine leave (fn := Tryz.f20) h Tryz.results20 (.ownA rfl H (by repeat (first | exact mh1 | apply mt1 | apply ma1)) (by repeat (first | exact Seg.nil | apply Seg.take | apply Seg.skip)) (.nil)) ?_
    exact ⟨_, rfl, by rw [hi]; rfl, H.done⟩
   | none =>
    rw [hl] at ht
    dsimp only at ht
    repeat refine cS0 ?_
    refine cR0 ?_
    refine sM0 hF h rfl rfl (by decide) ?_
    clear h; intro a h
    refine i_call hF h rfl (low_ret x _) rfl (by decide) ?_
    clear h; rintro _ w ⟨rfl, hb⟩ a h; replace H := H.call hb; clear hb
    refine i_alloc hF h H rfl (by decide) ?_
    clear h H; intro a w b4 _ h H
    refine j_storeA hF h H rfl rfl rfl rfl rfl (by repeat (first | exact Upd.here | apply Upd.there | apply Upd.app)) (by repeat (first | exact PutAt.nil | apply PutAt.put | apply PutAt.skip)) ?_
    clear H; intro w H
    first | refine cEt0 ?_ | refine cE0 ?_
    simp only [hl, Option.getD_none] at h H
    repeat refine cS0 ?_
    refine cR0 ?_
    refine iFa0 hF h rfl rfl rfl (by decide) ?_
    clear h; intro a h; try simp only [Nat.reduceAdd] at h
    refine iL0 hF h H rfl rfl (by repeat (first | exact mh1 | apply mt1 | apply ma1)) (by exact rfl) (by decide) ?_
    clear h; intro a h
    refine i_neS hF h rfl rfl rfl rfl (by decide) ?_
    clear h; intro a h
    first | refine cEt0 ?_ | refine cE0 ?_
    repeat refine cS0 ?_
    refine c_condF h rfl ?_
    first | refine cKt0 ?_ | refine cK0 ?_
    cases hm : midI x.toNat with
    | some y =>
     rw [hm] at ht
     dsimp only at ht
     obtain ⟨hi, hy⟩ := of_decide_eq_true ht
     repeat refine cS0 ?_
     refine cR0 ?_
     refine sM0 hF h rfl rfl (by decide) ?_
     clear h; intro a h
     refine i_call hF h rfl (mid_ret x _) rfl (by decide) ?_
     clear h; rintro _ w ⟨rfl, hb⟩ a h; replace H := H.call hb; clear hb
     refine i_alloc hF h H rfl (by decide) ?_
     clear h H; intro a w b5 _ h H
     refine j_storeA hF h H rfl rfl rfl rfl rfl (by repeat (first | exact Upd.here | apply Upd.there | apply Upd.app)) (by repeat (first | exact PutAt.nil | apply PutAt.put | apply PutAt.skip)) ?_
     clear H; intro w H
     first | refine cEt0 ?_ | refine cE0 ?_
     simp only [hm, Option.getD_some] at h H
     repeat refine cS0 ?_
     refine cR0 ?_
     refine iFa0 hF h rfl rfl rfl (by decide) ?_
     clear h; intro a h; try simp only [Nat.reduceAdd] at h
     refine iL0 hF h H rfl rfl (by repeat (first | exact mh1 | apply mt1 | apply ma1)) (by exact rfl) (by decide) ?_
     clear h; intro a h
     refine i_neS hF h rfl rfl rfl (show (!(y.1 == [])) = true by simpa using hy) (by decide) ?_
     clear h; intro a h
     refine cEt0 ?_
     repeat refine cS0 ?_
     refine c_condT h rfl ?_
     repeat refine cS0 ?_
     refine cR0 ?_
     refine j_loadA hF h H rfl rfl (by repeat (first | exact mh1 | apply mt1 | apply ma1)) (by repeat (first | exact Seg.nil | apply Seg.take | apply Seg.skip)) (by decide) ?_
     clear h; intro a h
     refine j_storeA hF h H rfl rfl rfl rfl rfl (by repeat (first | exact Upd.here | apply Upd.there | apply Upd.app)) (by repeat (first | exact PutAt.nil | apply PutAt.put | apply PutAt.skip)) ?_
     clear H; intro w H
     first | refine cEt0 ?_ | refine cE0 ?_
     refine c_ret ?_
     with_reducible repeat (first | refine xa0 ?_ | refine xb0 ?_ | refine xc0 ?_ | refine xd0 ?_ | refine xe0 (by decide) ?_ | refine xf0 ?_ | refine xg0 ?_ | refine xh0 ?_ | refine xi0 ?_)
     refine leave (fn := Tryz.f20) h Tryz.results20 (.ownA rfl H (by repeat (first | exact mh1 | apply mt1 | apply ma1)) (by repeat (first | exact Seg.nil | apply Seg.take | apply Seg.skip)) (.nil)) ?_
     exact ⟨_, rfl, by rw [hi]; rfl, H.done⟩
    | none =>
     rw [hm] at ht
     dsimp only at ht
     have hi := of_decide_eq_true ht
     repeat refine cS0 ?_
     refine cR0 ?_
     refine sM0 hF h rfl rfl (by decide) ?_
     clear h; intro a h
     refine i_call hF h rfl (mid_ret x _) rfl (by decide) ?_
     clear h; rintro _ w ⟨rfl, hb⟩ a h; replace H := H.call hb; clear hb
     refine i_alloc hF h H rfl (by decide) ?_
     clear h H; intro a w b5 _ h H
     refine j_storeA hF h H rfl rfl rfl rfl rfl (by repeat (first | exact Upd.here | apply Upd.there | apply Upd.app)) (by repeat (first | exact PutAt.nil | apply PutAt.put | apply PutAt.skip)) ?_
     clear H; intro w H
     first | refine cEt0 ?_ | refine cE0 ?_
     simp only [hm, Option.getD_none] at h H
     repeat refine cS0 ?_
     refine cR0 ?_
     refine iFa0 hF h rfl rfl rfl (by decide) ?_
     clear h; intro a h; try simp only [Nat.reduceAdd] at h
     refine iL0 hF h H rfl rfl (by repeat (first | exact mh1 | apply mt1 | apply ma1)) (by exact rfl) (by decide) ?_
     clear h; intro a h
     refine i_neS hF h rfl rfl rfl rfl (by decide) ?_
     clear h; intro a h
     first | refine cEt0 ?_ | refine cE0 ?_
     repeat refine cS0 ?_
     refine c_condF h rfl ?_
     first | refine cKt0 ?_ | refine cK0 ?_
     repeat refine cS0 ?_
     refine cR0 ?_
     refine sM0 hF h rfl rfl (by decide) ?_
     clear h; intro a h
     refine i_call hF h rfl (high_ret x _) rfl (by decide) ?_
     clear h; rintro _ w ⟨rfl, hb⟩ a h; replace H := H.call hb; clear hb
     refine j_storeA hF h H rfl rfl rfl rfl rfl (by repeat (first | exact Upd.here | apply Upd.there | apply Upd.app)) (by repeat (first | exact PutAt.nil | apply PutAt.put | apply PutAt.skip)) ?_
     clear H; intro w H
     first | refine cEt0 ?_ | refine cE0 ?_
     refine c_ret ?_
     with_reducible repeat (first | refine xa0 ?_ | refine xb0 ?_ | refine xc0 ?_ | refine xd0 ?_ | refine xe0 (by decide) ?_ | refine xf0 ?_ | refine xg0 ?_ | refine xh0 ?_ | refine xi0 ?_)
     refine leave (fn := Tryz.f20) h Tryz.results20 (.ownA rfl H (by repeat (first | exact mh1 | apply mt1 | apply ma1)) (by repeat (first | exact Seg.nil | apply Seg.take | apply Seg.skip)) (.nil)) ?_
     exact ⟨_, rfl, by rw [hi]; rfl, H.done⟩
end Go.Proofs.YtjlmpghcjgbfjaaGreatDoor.Cw
namespace Go.Proofs.YtjlmpghcjgbfjaaGreatDoor.Cw
open Go Go.RowKit Go.Proofs Ex Cd
set_option maxRecDepth 100000
theorem size_of (op : Nat) (ho : op < 256) : ((info op).getD noneI).2.2.2.2.2 = sz op := by
 cases hi : info op with
 | some x => exact size_known op x ho hi
 | none => rw [size_none op ho hi]; rfl
theorem sizeF (x : UInt8) : (cellsI ((info x.toNat).getD noneI))[5]? = some (int (sz x.toNat : Nat)) := by
 rw [← size_of x.toNat x.toNat_lt]; rfl
theorem rops_ret (v : Value) (c : List UInt8) (hc : c.length ≤ 1000000) (w0 : World) (hB : BS w0 v c) : Rets Tryz.prog 8 [v] w0 fun u w' => GivesRow 3 (fun k : Nat => int k) (ops c) w0 u w' := by
 refine enter Tryz.func8 rfl (Nat.le_of_ble_eq_true rfl) ?_
 intro a h; rw [Tryz.ntmps8] at h
 have hF := Fd.wide; have H := St.begin w0
 repeat refine cS0 ?_
 refine cR0 ?_
 refine sA0 hF h rfl rfl (by decide) ?_
 clear h; intro a h
 first | refine cEt0 ?_ | refine cE0 ?_
 repeat refine cS0 ?_
 refine cR0 ?_
 refine sA0 hF h rfl rfl (by decide) ?_
 clear h; intro a h
 first | refine cEt0 ?_ | refine cE0 ?_
 repeat refine cS0 ?_
 refine cR0 ?_
 refine sA0 hF h rfl rfl (by decide) ?_
 clear h; intro a h
 first | refine cEt0 ?_ | refine cE0 ?_
 repeat refine cS0 ?_
 refine c_block ?_
 refine c_loopN (fun q a' w' => ∃ pre k u R, q = c.length - k ∧ ops c = pre ++ opsN c.length c k ∧ pre.length ≤ k ∧ RowIs 3 1 u pre.length (pre.map fun k : Nat => int k) R ∧ Fr 23 [] [(4, int (k : Nat)), (3, u), (0, v)] a' ∧ St w0.heap.size w0 (R ++ []) w') c.length ⟨[], 0, _, _, rfl, rfl, Nat.le_refl _, RowIs.nil 3 1, (h.sub (by repeat (first | exact trivial | refine ⟨rfl, ?_⟩))), H⟩ ?_
 clear h H
 rintro q a w ⟨pre, k, u, R, rfl, hops, hpk, hr, h, H⟩
 by_cases hk : k < c.length
 · repeat refine cS0 ?_
   refine cR0 ?_
   refine sM0 hF h rfl rfl (by decide) ?_
   clear h; intro a h
   refine sM0 hF h rfl rfl (by decide) ?_
   clear h; intro a h
   refine i_lenB hF h rfl rfl (hB.at H (Nat.le_refl _)) (by decide) ?_
   clear h; intro a h
   (first | (refine iC0 hF h rfl rfl rfl (i_lss_t (by omega)) (by decide) ?_) | (refine iC0 hF h rfl rfl rfl (i_lss_f (by omega)) (by decide) ?_))
   clear h; intro a h
   first | refine cEt0 ?_ | refine cE0 ?_
   repeat refine cS0 ?_
   refine c_condT h rfl ?_
   first | refine cKt0 ?_ | refine cK0 ?_
   obtain ⟨x, hx⟩ : ∃ x, c[k]? = some x := ⟨_, List.getElem?_eq_getElem hk⟩
   have hxd : c.getD k 0 = x := by rw [List.getD_eq_getElem?_getD, hx]; rfl
   have hst := opsN_step c.length k c (by omega) hk
   rw [hxd] at hst
   have hs32 := sz_le x.toNat
   repeat refine cS0 ?_
   refine c_block ?_
   repeat refine cS0 ?_
   refine cR0 ?_
   refine sM0 hF h rfl rfl (by decide) ?_
   clear h; intro a h
   refine sM0 hF h rfl rfl (by decide) ?_
   clear h; intro a h
   refine i_buildSlice hF h H rfl rfl (by decide) (by decide) rfl (by decide) ?_
   clear h H; intro a w b20 _ h H
   replace H := H.newIn
   refine i_append hF h hr H rfl rfl rfl (m := 1) (news := [int (k : Nat)]) rfl (cells_own H (by repeat (first | exact mh1 | apply mt1 | apply ma1))) (by simp [Value.oneCell']) (by omega) (by omega) (by decide) ?_
   clear h H; intro a w u' R' hr' H h
   refine sA0 hF h rfl rfl (by decide) ?_
   clear h; intro a h
   refine cE0 ?_
   with_reducible repeat (first | refine xa0 ?_ | refine xb0 ?_ | refine xc0 ?_ | refine xd0 ?_ | refine xe0 (by decide) ?_ | refine xf0 ?_ | refine xg0 ?_ | refine xh0 ?_ | refine xi0 ?_)
   replace H := H.dropIn
   repeat refine cS0 ?_
   refine cR0 ?_
   refine sM0 hF h rfl rfl (by decide) ?_
   clear h; intro a h
   refine i_ar64 hF h rfl rfl rfl rfl (by omega) (by omega) (by decide) ?_
   clear h; intro a h
   refine sM0 hF h rfl rfl (by decide) ?_
   clear h; intro a h
   refine sM0 hF h rfl rfl (by decide) ?_
   clear h; intro a h
   refine i_idxB hF h rfl rfl (hB.at H (Nat.le_refl _)) rfl hx (by decide) ?_
   clear h; intro be bo a hbe h
   refine i_loadW hF h rfl rfl hbe (by decide) ?_
   clear h; intro a h
   refine i_call hF h rfl (rinfo_ret x _) rfl (by decide) ?_
   clear h; rintro _ w ⟨rfl, hb⟩ a h; replace H := H.call hb; clear hb
   refine i_field hF h rfl rfl (sizeF x) (by decide) ?_
   clear h; intro a h
   refine i_ar64 hF h rfl rfl rfl rfl (by omega) (by omega) (by decide) ?_
   clear h; intro a h
   refine sA0 hF h rfl rfl (by decide) ?_
   clear h; intro a h
   refine cE0 ?_
   refine ⟨c.length - (k + 1 + sz x.toNat), by omega, pre ++ [k], k + 1 + sz x.toNat, u', R', rfl, by rw [hops, hst]; simp, by simp; omega, by simpa using hr', ?_, H⟩
   rw [show ((k + 1 + sz x.toNat : Nat) : Int) = (k : Int) + 1 + (sz x.toNat : Int) by omega]
   exact (h.sub (by repeat (first | exact trivial | refine ⟨rfl, ?_⟩)))
 · repeat refine cS0 ?_
   refine cR0 ?_
   refine sM0 hF h rfl rfl (by decide) ?_
   clear h; intro a h
   refine sM0 hF h rfl rfl (by decide) ?_
   clear h; intro a h
   refine i_lenB hF h rfl rfl (hB.at H (Nat.le_refl _)) (by decide) ?_
   clear h; intro a h
   (first | (refine iC0 hF h rfl rfl rfl (i_lss_t (by omega)) (by decide) ?_) | (refine iC0 hF h rfl rfl rfl (i_lss_f (by omega)) (by decide) ?_))
   clear h; intro a h
   first | refine cEt0 ?_ | refine cE0 ?_
   repeat refine cS0 ?_
   refine c_condF h rfl ?_
   refine c_exit ?_
   with_reducible repeat (first | refine xa0 ?_ | refine xb0 ?_ | refine xc0 ?_ | refine xd0 ?_ | refine xe0 (by decide) ?_ | refine xf0 ?_ | refine xg0 ?_ | refine xh0 ?_ | refine xi0 ?_)
   rw [opsN_stop _ _ _ (by omega), List.append_nil] at hops
   repeat refine cS0 ?_
   refine cR0 ?_
   refine sM0 hF h rfl rfl (by decide) ?_
   clear h; intro a h
   refine sA0 hF h rfl rfl (by decide) ?_
   clear h; intro a h
   first | refine cEt0 ?_ | refine cE0 ?_
   refine c_ret ?_
   with_reducible repeat (first | refine xa0 ?_ | refine xb0 ?_ | refine xc0 ?_ | refine xd0 ?_ | refine xe0 (by decide) ?_ | refine xf0 ?_ | refine xg0 ?_ | refine xh0 ?_ | refine xi0 ?_)
   refine leave (fn := Tryz.f8) h Tryz.results8 (.tmp rfl (.nil)) ?_
   rw [← hops] at hr
   exact ⟨_, rfl, GivesRow.of (L := []) hr rfl H⟩
/-- so many bytes of a row, the rest zeros -/
def upTo (n i : Nat) (r : List UInt8) : List UInt8 := (List.range n).map fun j => if j < i then r.getD j 0 else 0
theorem upTo_length (n i : Nat) (r : List UInt8) : (upTo n i r).length = n := by simp [upTo]
theorem upTo_zero (n : Nat) (r : List UInt8) : upTo n 0 r = List.replicate n 0 := by
 apply List.ext_getElem <;> simp [upTo]
theorem upTo_set (n i : Nat) (r : List UInt8) : (upTo n i r).set i (r.getD i 0) = upTo n (i + 1) r := by
 apply List.ext_getElem
 · simp [upTo]
 · intro j h1 h2
   simp only [upTo, List.getElem_set, List.getElem_map, List.getElem_range]
   by_cases e : i = j
   · subst e; simp
   · rw [if_neg e]
     by_cases h3 : j < i
     · rw [if_pos h3, if_pos (by omega)]
     · rw [if_neg h3, if_neg (by omega)]
theorem upTo_more (n i : Nat) (r : List UInt8) (h : r.length ≤ i) : upTo n (i + 1) r = upTo n i r := by
 apply List.ext_getElem
 · simp [upTo]
 · intro j h1 h2
   simp only [upTo, List.getElem_map, List.getElem_range]
   by_cases h3 : j < i
   · rw [if_pos h3, if_pos (by omega)]
   · rw [if_neg h3]
     split
     · rw [List.getD_eq_getElem?_getD, List.getElem?_eq_none (by omega)]; rfl
     · rfl
theorem upTo_all (n : Nat) (r : List UInt8) : upTo n n r = pad n r := by
 apply List.ext_getElem
 · simp [upTo, pad_length]
 · intro j h1 h2
   have hj : j < n := by simpa [upTo] using h1
   simp only [upTo, List.getElem_map, List.getElem_range, if_pos hj, pad, List.getElem_append, List.getElem_take, List.length_take, List.getElem_replicate]
   split
   · rw [List.getD_eq_getElem?_getD, List.getElem?_eq_getElem (by omega)]; rfl
   · rw [List.getD_eq_getElem?_getD, List.getElem?_eq_none (by omega)]; rfl
theorem getD_drop (c : List UInt8) (k i : Nat) : (c.drop k).getD i 0 = c.getD (k + i) 0 := by
 rw [List.getD_eq_getElem?_getD, List.getElem?_drop, List.getD_eq_getElem?_getD]
theorem rbehind_ret (v : Value) (c : List UInt8) (k : Nat) (x : UInt8) (hc : c.length ≤ 1000000) (w0 : World) (hB : BS w0 v c) (hk : c[k]? = some x) :
 Rets Tryz.prog 37 [v, int k] w0 fun u w' => GivesRow 5 byt (pad (sz x.toNat) (c.drop (k + 1))) w0 u w' := by
 have hs32 := sz_le x.toNat
 have hkl : k < c.length := (List.getElem?_eq_some_iff.1 hk).1
 refine enter Tryz.func37 rfl (Nat.le_of_ble_eq_true rfl) ?_
 intro a h; rw [Tryz.ntmps37] at h
 have hF := Fd.wide; have H := St.begin w0
 repeat refine cS0 ?_
 refine cR0 ?_
 refine sA0 hF h rfl rfl (by decide) ?_
 clear h; intro a h
 first | refine cEt0 ?_ | refine cE0 ?_
 repeat refine cS0 ?_
 refine cR0 ?_
 refine sM0 hF h rfl rfl (by decide) ?_
 clear h; intro a h
 refine sM0 hF h rfl rfl (by decide) ?_
 clear h; intro a h
 refine i_idxB hF h rfl rfl (hB.at H (Nat.le_refl _)) rfl hk (by decide) ?_
 clear h; intro be bo a hbe h
 refine i_loadW hF h rfl rfl hbe (by decide) ?_
 clear h; intro a h
 refine i_call hF h rfl (rinfo_ret x _) rfl (by decide) ?_
 clear h; rintro _ w ⟨rfl, hb⟩ a h; replace H := H.call hb; clear hb
 refine i_field hF h rfl rfl (sizeF x) (by decide) ?_
 clear h; intro a h
 refine i_makeB (bytes := 1) hF h H rfl (by kernel_rfl) rfl (by omega) (by omega) (by decide) ?_
 clear h H; intro a w b13 _ h H
 refine sA0 hF h rfl rfl (by decide) ?_
 clear h; intro a h
 first | refine cEt0 ?_ | refine cE0 ?_
 repeat refine cS0 ?_
 refine cR0 ?_
 refine sA0 hF h rfl rfl (by decide) ?_
 clear h; intro a h
 first | refine cEt0 ?_ | refine cE0 ?_
 repeat refine cS0 ?_
 refine c_block ?_
 refine c_loopN (fun q a' w' => ∃ i, q = sz x.toNat - i ∧ i ≤ sz x.toNat ∧ Fr 38 [] [(6, int (i : Nat)), (5, sl b13 (sz x.toNat) (sz x.toNat)), (1, int (k : Nat)), (0, v)] a' ∧ St w0.heap.size w0 [(b13, rowB (upTo (sz x.toNat) i (c.drop (k + 1))) [])] w') (sz x.toNat) ⟨0, rfl, by omega, (h.sub (by repeat (first | exact trivial | refine ⟨rfl, ?_⟩))), by rw [upTo_zero]; exact H⟩ ?_
 clear h H
 rintro q a w ⟨i, rfl, hi, h, H⟩
 by_cases hi2 : i < sz x.toNat
 · repeat refine cS0 ?_
   refine cR0 ?_
   refine sM0 hF h rfl rfl (by decide) ?_
   clear h; intro a h
   refine sM0 hF h rfl rfl (by decide) ?_
   clear h; intro a h
   refine i_len hF h rfl rfl (by decide) ?_
   clear h; intro a h
   (first | (refine iC0 hF h rfl rfl rfl (i_lss_t (by omega)) (by decide) ?_) | (refine iC0 hF h rfl rfl rfl (i_lss_f (by omega)) (by decide) ?_))
   clear h; intro a h
   first | refine cEt0 ?_ | refine cE0 ?_
   repeat refine cS0 ?_
   refine c_condT h rfl ?_
   first | refine cKt0 ?_ | refine cK0 ?_
   repeat refine cS0 ?_
   refine c_block ?_
   by_cases hin : k + 1 + i < c.length
   · obtain ⟨y, hy⟩ : ∃ y, c[k + 1 + i]? = some y := ⟨_, List.getElem?_eq_getElem hin⟩
     have hyd : (c.drop (k + 1)).getD i 0 = y := by rw [getD_drop, List.getD_eq_getElem?_getD, hy]; rfl
     repeat refine cS0 ?_
     refine cR0 ?_
     refine sM0 hF h rfl rfl (by decide) ?_
     clear h; intro a h
     refine i_ar64 hF h rfl rfl rfl rfl (by omega) (by omega) (by decide) ?_
     clear h; intro a h
     refine sM0 hF h rfl rfl (by decide) ?_
     clear h; intro a h
     refine i_ar64 hF h rfl rfl rfl rfl (by omega) (by omega) (by decide) ?_
     clear h; intro a h
     refine sM0 hF h rfl rfl (by decide) ?_
     clear h; intro a h
     refine i_lenB hF h rfl rfl (hB.at H (Nat.le_refl _)) (by decide) ?_
     clear h; intro a h
     (first | (refine iC0 hF h rfl rfl rfl (i_lss_t (by omega)) (by decide) ?_) | (refine iC0 hF h rfl rfl rfl (i_lss_f (by omega)) (by decide) ?_))
     clear h; intro a h
     first | refine cEt0 ?_ | refine cE0 ?_
     repeat refine cS0 ?_
     refine c_condT h rfl ?_
     repeat refine cS0 ?_
     refine cR0 ?_
     refine sM0 hF h rfl rfl (by decide) ?_
     clear h; intro a h
     refine sM0 hF h rfl rfl (by decide) ?_
     clear h; intro a h
     refine sM0 hF h rfl rfl (by decide) ?_
     clear h; intro a h
     refine sM0 hF h rfl rfl (by decide) ?_
     clear h; intro a h
     refine i_ar64 hF h rfl rfl rfl rfl (by omega) (by omega) (by decide) ?_
     clear h; intro a h
     refine sM0 hF h rfl rfl (by decide) ?_
     clear h; intro a h
     refine i_ar64 hF h rfl rfl rfl rfl (by omega) (by omega) (by decide) ?_
     clear h; intro a h
     rw [show (k : Int) + 1 + (i : Int) = ((k + 1 + i : Nat) : Int) by omega] at h
     refine i_idxB hF h rfl rfl (hB.at H (Nat.le_refl _)) rfl hy (by decide) ?_
     clear h; intro be bo a hbe h
     refine i_loadW hF h rfl rfl hbe (by decide) ?_
     clear h; intro a h
     refine i_idxRow hF h rfl rfl rfl (by omega) (by omega) (by decide) ?_
     clear h; intro a h; simp only [Int.toNat_natCast] at h
     refine i_storeRow hF h H rfl rfl rfl (by repeat (first | exact Upd.here | apply Upd.there | apply Upd.app)) (by rw [upTo_length]; omega) ?_
     clear H; intro w H
     refine cE0 ?_
     with_reducible repeat (first | refine xa0 ?_ | refine xb0 ?_ | refine xc0 ?_ | refine xd0 ?_ | refine xe0 (by decide) ?_ | refine xf0 ?_ | refine xg0 ?_ | refine xh0 ?_ | refine xi0 ?_)
     rw [← hyd, upTo_set] at H
     repeat refine cS0 ?_
     refine cR0 ?_
     refine sM0 hF h rfl rfl (by decide) ?_
     clear h; intro a h
     refine i_ar64 hF h rfl rfl rfl rfl (by omega) (by omega) (by decide) ?_
     clear h; intro a h
     refine sA0 hF h rfl rfl (by decide) ?_
     clear h; intro a h
     refine cE0 ?_
     exact ⟨sz x.toNat - (i + 1), by omega, i + 1, rfl, by omega, (h.sub (by repeat (first | exact trivial | refine ⟨rfl, ?_⟩))), H⟩
   · repeat refine cS0 ?_
     refine cR0 ?_
     refine sM0 hF h rfl rfl (by decide) ?_
     clear h; intro a h
     refine i_ar64 hF h rfl rfl rfl rfl (by omega) (by omega) (by decide) ?_
     clear h; intro a h
     refine sM0 hF h rfl rfl (by decide) ?_
     clear h; intro a h
     refine i_ar64 hF h rfl rfl rfl rfl (by omega) (by omega) (by decide) ?_
     clear h; intro a h
     refine sM0 hF h rfl rfl (by decide) ?_
     clear h; intro a h
     refine i_lenB hF h rfl rfl (hB.at H (Nat.le_refl _)) (by decide) ?_
     clear h; intro a h
     (first | (refine iC0 hF h rfl rfl rfl (i_lss_t (by omega)) (by decide) ?_) | (refine iC0 hF h rfl rfl rfl (i_lss_f (by omega)) (by decide) ?_))
     clear h; intro a h
     first | refine cEt0 ?_ | refine cE0 ?_
     repeat refine cS0 ?_
     refine c_condF h rfl ?_
     refine cK0 ?_
     with_reducible repeat (first | refine xa0 ?_ | refine xb0 ?_ | refine xc0 ?_ | refine xd0 ?_ | refine xe0 (by decide) ?_ | refine xf0 ?_ | refine xg0 ?_ | refine xh0 ?_ | refine xi0 ?_)
     rw [← upTo_more _ _ _ (by simp; omega)] at H
     repeat refine cS0 ?_
     refine cR0 ?_
     refine sM0 hF h rfl rfl (by decide) ?_
     clear h; intro a h
     refine i_ar64 hF h rfl rfl rfl rfl (by omega) (by omega) (by decide) ?_
     clear h; intro a h
     refine sA0 hF h rfl rfl (by decide) ?_
     clear h; intro a h
     refine cE0 ?_
     exact ⟨sz x.toNat - (i + 1), by omega, i + 1, rfl, by omega, (h.sub (by repeat (first | exact trivial | refine ⟨rfl, ?_⟩))), H⟩
 · repeat refine cS0 ?_
   refine cR0 ?_
   refine sM0 hF h rfl rfl (by decide) ?_
   clear h; intro a h
   refine sM0 hF h rfl rfl (by decide) ?_
   clear h; intro a h
   refine i_len hF h rfl rfl (by decide) ?_
   clear h; intro a h
   (first | (refine iC0 hF h rfl rfl rfl (i_lss_t (by omega)) (by decide) ?_) | (refine iC0 hF h rfl rfl rfl (i_lss_f (by omega)) (by decide) ?_))
   clear h; intro a h
   first | refine cEt0 ?_ | refine cE0 ?_
   repeat refine cS0 ?_
   refine c_condF h rfl ?_
   refine c_exit ?_
   with_reducible repeat (first | refine xa0 ?_ | refine xb0 ?_ | refine xc0 ?_ | refine xd0 ?_ | refine xe0 (by decide) ?_ | refine xf0 ?_ | refine xg0 ?_ | refine xh0 ?_ | refine xi0 ?_)
   have hi3 : i = sz x.toNat := by omega
   rw [hi3, upTo_all] at H
   repeat refine cS0 ?_
   refine cR0 ?_
   refine sM0 hF h rfl rfl (by decide) ?_
   clear h; intro a h
   refine sA0 hF h rfl rfl (by decide) ?_
   clear h; intro a h
   first | refine cEt0 ?_ | refine cE0 ?_
   refine c_ret ?_
   with_reducible repeat (first | refine xa0 ?_ | refine xb0 ?_ | refine xc0 ?_ | refine xd0 ?_ | refine xe0 (by decide) ?_ | refine xf0 ?_ | refine xg0 ?_ | refine xh0 ?_ | refine xi0 ?_)
   refine leave (fn := Tryz.f37) h Tryz.results37 (.tmp rfl (.nil)) ?_
   have hpl := pad_length (sz x.toNat) (c.drop (k + 1))
   exact ⟨_, rfl, GivesRow.of (n := sz x.toNat) (R := [(b13, rowB (pad (sz x.toNat) (c.drop (k + 1))) [])]) (L := []) ⟨by simp [hpl], .inr ⟨b13, sz x.toNat, [], rfl, Nat.le_refl _, by unfold maxLen; omega, by simp [hpl], rfl⟩⟩ rfl H⟩
end Go.Proofs.YtjlmpghcjgbfjaaGreatDoor.Cw
namespace Go.Proofs.YtjlmpghcjgbfjaaGreatDoor.Cw
open Go Go.RowKit Go.Proofs Ex Cd
set_option maxRecDepth 100000
theorem digs_slice (q : Nat) (h : q < 16) : (digs.take (q + 1)).drop q = [hexd q] := by
 have := upto (fun q => decide ((digs.take (q + 1)).drop q = [hexd q])) 16 (by decide +kernel) q h
 exact of_decide_eq_true this
theorem rhex_ret (v : Value) (l : List UInt8) (hl : l.length ≤ 1000) (w0 : World) (hB : BS w0 v l) : Rets Tryz.prog 36 [v] w0 fun u w' => u = str (hex l) ∧ Below w0.heap.size w0 w' := by
 refine enter Tryz.func36 rfl (Nat.le_of_ble_eq_true rfl) ?_
 intro a h; rw [Tryz.ntmps36] at h
 have hF := Fd.wide; have H := St.begin w0
 repeat refine cS0 ?_
 refine cR0 ?_
 refine sA0 hF h rfl rfl (by decide) ?_
 clear h; intro a h
 first | refine cEt0 ?_ | refine cE0 ?_
 repeat refine cS0 ?_
 refine cR0 ?_
 refine sA0 hF h rfl rfl (by decide) ?_
 clear h; intro a h
 first | refine cEt0 ?_ | refine cE0 ?_
 repeat refine cS0 ?_
 refine cR0 ?_
 refine sA0 hF h rfl rfl (by decide) ?_
 clear h; intro a h
 first | refine cEt0 ?_ | refine cE0 ?_
 repeat refine cS0 ?_
 refine c_block ?_
 refine c_loopN (fun q a' w' => ∃ j, q = l.length - j ∧ j ≤ l.length ∧ Fr 39 [] [(4, int (j : Nat)), (3, str ([48, 120] ++ hexs (l.take j))), (0, v)] a' ∧ St w0.heap.size w0 [] w') l.length ⟨0, rfl, by omega, (h.sub (by repeat (first | exact trivial | refine ⟨rfl, ?_⟩))), H⟩ ?_
 clear h H
 rintro q a w ⟨j, rfl, hj, h, H⟩
 by_cases hjl : j < l.length
 · repeat refine cS0 ?_
   refine cR0 ?_
   refine sM0 hF h rfl rfl (by decide) ?_
   clear h; intro a h
   refine sM0 hF h rfl rfl (by decide) ?_
   clear h; intro a h
   refine i_lenB hF h rfl rfl (hB.at H (Nat.le_refl _)) (by decide) ?_
   clear h; intro a h
   (first | (refine iC0 hF h rfl rfl rfl (i_lss_t (by omega)) (by decide) ?_) | (refine iC0 hF h rfl rfl rfl (i_lss_f (by omega)) (by decide) ?_))
   clear h; intro a h
   first | refine cEt0 ?_ | refine cE0 ?_
   repeat refine cS0 ?_
   refine c_condT h rfl ?_
   first | refine cKt0 ?_ | refine cK0 ?_
   obtain ⟨x, hx⟩ : ∃ x, l[j]? = some x := ⟨_, List.getElem?_eq_getElem hjl⟩
   have hxl := x.toNat_lt
   have hlen : ([48, 120] ++ hexs (l.take j)).length ≤ 2002 := by
    rw [List.length_append, hexs_length, List.length_take]; simp; omega
   have hlen2 : (hexs (l.take j)).length ≤ 2000 := by rw [hexs_length, List.length_take]; omega
   obtain ⟨p, cap, hv, hcap, hp⟩ := id hB
   rcases hp with ⟨_, rfl⟩ | ⟨b, off, rfl, hb, hc⟩
   · simp at hjl
   subst hv
   have hcell : ∀ {w' : World}, St w0.heap.size w0 [] w' → w'.cell? ⟨b, off + j * 1, none⟩ = some (byt x) := fun H' => by
    rw [Nat.mul_one]; exact (H'.below.cell (p := ⟨b, off + j, none⟩) hb).trans (hc j x hx)
   have e16 : (x.toNat : Int) / 16 = ((x.toNat / 16 : Nat) : Int) := by omega
   have e17 : (x.toNat : Int) / 16 + 1 = ((x.toNat / 16 + 1 : Nat) : Int) := by omega
   have m16 : (x.toNat : Int) % 16 = ((x.toNat % 16 : Nat) : Int) := by omega
   have m17 : (x.toNat : Int) % 16 + 1 = ((x.toNat % 16 + 1 : Nat) : Int) := by omega
   repeat refine cS0 ?_
   refine c_block ?_
   have hone : ∀ q, [hexd q].length = 1 := fun _ => rfl
   repeat refine cS0 ?_
   refine d_regionL [] (by kernel_rfl) H ?_
   clear H; intro w H
   apply dQ0 hF h 0 rfl rfl (by kernel_rfl) (by decide) NoP.np (fun _ => H.sub (by repeat (first | exact ln1 | exact ls1 | exact lr1 | apply lk1 | apply List.Sublist.cons | apply la1)))
   · intro w
     refine sM0 hF h rfl rfl (by decide) ?_
     intro a h
     exact ⟨rfl, h⟩
   clear h; intro a h
   apply dQ0 hF h 1 rfl rfl (by kernel_rfl) (by decide) NoP.np (fun _ => H.sub (by repeat (first | exact ln1 | exact ls1 | exact lr1 | apply lk1 | apply List.Sublist.cons | apply la1)))
   · intro w
     refine sM0 hF h rfl rfl (by decide) ?_
     intro a h
     exact ⟨rfl, h⟩
   clear h; intro a h
   apply dQ0 hF h 2 rfl rfl (by kernel_rfl) (by decide) NoP.np (fun _ => H.sub (by repeat (first | exact ln1 | exact ls1 | exact lr1 | apply lk1 | apply List.Sublist.cons | apply la1)))
   · intro w
     refine sM0 hF h rfl rfl (by decide) ?_
     intro a h
     exact ⟨rfl, h⟩
   clear h; intro a h
   apply dQ0 hF h 3 rfl rfl (by kernel_rfl) (by decide) NoP.np (fun _ => H.sub (by repeat (first | exact ln1 | exact ls1 | exact lr1 | apply lk1 | apply List.Sublist.cons | apply la1)))
   · intro w
     refine i_indexAddr hF h rfl rfl rfl hjl rfl (by decide) ?_
     intro a h
     exact ⟨rfl, h⟩
   clear h; intro a h
   apply dP0 hF h 4 rfl rfl (by kernel_rfl) (by decide) NoP.np (by kernel_rfl) (H.sub (by repeat (first | exact ln1 | exact ls1 | exact lr1 | apply lk1 | apply List.Sublist.cons | apply la1)))
   · intro w H
     refine i_loadW hF h rfl rfl (hcell H) (by decide) ?_
     intro a h
     exact ⟨rfl, h⟩
   clear h; intro a h
   apply dQ0 hF h 5 rfl rfl (by kernel_rfl) (by decide) NoP.np (fun _ => H.sub (by repeat (first | exact ln1 | exact ls1 | exact lr1 | apply lk1 | apply List.Sublist.cons | apply la1)))
   · intro w
     refine i_quo hF h rfl rfl rfl (by omega) (by omega) (by simp only [IntKind.max, IntKind.signed, IntKind.bits, Bool.false_eq_true, if_false]; omega) (by decide) ?_
     intro a h
     exact ⟨rfl, h⟩
   clear h; intro a h
   apply dQ0 hF h 6 rfl rfl (by kernel_rfl) (by decide) NoP.np (fun _ => H.sub (by repeat (first | exact ln1 | exact ls1 | exact lr1 | apply lk1 | apply List.Sublist.cons | apply la1)))
   · intro w
     refine sM0 hF h rfl rfl (by decide) ?_
     intro a h
     exact ⟨rfl, h⟩
   clear h; intro a h
   apply dQ0 hF h 7 rfl rfl (by kernel_rfl) (by decide) NoP.np (fun _ => H.sub (by repeat (first | exact ln1 | exact ls1 | exact lr1 | apply lk1 | apply List.Sublist.cons | apply la1)))
   · intro w
     refine sM0 hF h rfl rfl (by decide) ?_
     intro a h
     exact ⟨rfl, h⟩
   clear h; intro a h
   apply dQ0 hF h 8 rfl rfl (by kernel_rfl) (by decide) NoP.np (fun _ => H.sub (by repeat (first | exact ln1 | exact ls1 | exact lr1 | apply lk1 | apply List.Sublist.cons | apply la1)))
   · intro w
     refine i_indexAddr hF h rfl rfl rfl hjl rfl (by decide) ?_
     intro a h
     exact ⟨rfl, h⟩
   clear h; intro a h
   apply dP0 hF h 9 rfl rfl (by kernel_rfl) (by decide) NoP.np (by kernel_rfl) (H.sub (by repeat (first | exact ln1 | exact ls1 | exact lr1 | apply lk1 | apply List.Sublist.cons | apply la1)))
   · intro w H
     refine i_loadW hF h rfl rfl (hcell H) (by decide) ?_
     intro a h
     exact ⟨rfl, h⟩
   clear h; intro a h
   apply dQ0 hF h 10 rfl rfl (by kernel_rfl) (by decide) NoP.np (fun _ => H.sub (by repeat (first | exact ln1 | exact ls1 | exact lr1 | apply lk1 | apply List.Sublist.cons | apply la1)))
   · intro w
     refine i_quo hF h rfl rfl rfl (by omega) (by omega) (by simp only [IntKind.max, IntKind.signed, IntKind.bits, Bool.false_eq_true, if_false]; omega) (by decide) ?_
     intro a h
     exact ⟨rfl, h⟩
   clear h; intro a h
   apply dQ0 hF h 11 rfl rfl (by kernel_rfl) (by decide) NoP.np (fun _ => H.sub (by repeat (first | exact ln1 | exact ls1 | exact lr1 | apply lk1 | apply List.Sublist.cons | apply la1)))
   · intro w
     refine i_arith hF h rfl rfl rfl rfl (by simp only [IntKind.min, IntKind.signed, IntKind.bits, Bool.false_eq_true, if_false]; omega) (by simp only [IntKind.max, IntKind.signed, IntKind.bits, Bool.false_eq_true, if_false]; omega) (by decide) ?_
     intro a h
     exact ⟨rfl, h⟩
   clear h; intro a h
   rw [e17, e16] at h
   apply dQ0 hF h 12 rfl rfl (by kernel_rfl) (by decide) NoP.np (fun _ => H.sub (by repeat (first | exact ln1 | exact ls1 | exact lr1 | apply lk1 | apply List.Sublist.cons | apply la1)))
   · intro w
     refine i_sliceS (l := digs) (i := x.toNat / 16) (j := x.toNat / 16 + 1) hF h rfl rfl ⟨.u8, rfl⟩ ⟨.u8, rfl⟩ (by omega) (by show _ ≤ 16; omega) (by decide) ?_
     intro a h; rw [digs_slice _ (by omega)] at h
     exact ⟨rfl, h⟩
   clear h; intro a h
   apply dQ0 hF h 13 rfl rfl (by kernel_rfl) (by decide) NoP.np (fun _ => H.sub (by repeat (first | exact ln1 | exact ls1 | exact lr1 | apply lk1 | apply List.Sublist.cons | apply la1)))
   · intro w
     refine i_addS hF h rfl rfl rfl (by first | omega | (simp only [List.length_cons, List.length_nil, List.length_append]; omega)) (by decide) ?_
     intro a h
     exact ⟨rfl, h⟩
   clear h; intro a h
   apply dQ0 hF h 14 rfl rfl (by kernel_rfl) (by decide) NoP.np (fun _ => H.sub (by repeat (first | exact ln1 | exact ls1 | exact lr1 | apply lk1 | apply List.Sublist.cons | apply la1)))
   · intro w
     refine sM0 hF h rfl rfl (by decide) ?_
     intro a h
     exact ⟨rfl, h⟩
   clear h; intro a h
   apply dQ0 hF h 15 rfl rfl (by kernel_rfl) (by decide) NoP.np (fun _ => H.sub (by repeat (first | exact ln1 | exact ls1 | exact lr1 | apply lk1 | apply List.Sublist.cons | apply la1)))
   · intro w
     refine sM0 hF h rfl rfl (by decide) ?_
     intro a h
     exact ⟨rfl, h⟩
   clear h; intro a h
   apply dQ0 hF h 16 rfl rfl (by kernel_rfl) (by decide) NoP.np (fun _ => H.sub (by repeat (first | exact ln1 | exact ls1 | exact lr1 | apply lk1 | apply List.Sublist.cons | apply la1)))
   · intro w
     refine i_indexAddr hF h rfl rfl rfl hjl rfl (by decide) ?_
     intro a h
     exact ⟨rfl, h⟩
   clear h; intro a h
   apply dP0 hF h 17 rfl rfl (by kernel_rfl) (by decide) NoP.np (by kernel_rfl) (H.sub (by repeat (first | exact ln1 | exact ls1 | exact lr1 | apply lk1 | apply List.Sublist.cons | apply la1)))
   · intro w H
     refine i_loadW hF h rfl rfl (hcell H) (by decide) ?_
     intro a h
     exact ⟨rfl, h⟩
   clear h; intro a h
   apply dQ0 hF h 18 rfl rfl (by kernel_rfl) (by decide) NoP.np (fun _ => H.sub (by repeat (first | exact ln1 | exact ls1 | exact lr1 | apply lk1 | apply List.Sublist.cons | apply la1)))
   · intro w
     refine i_rem hF h rfl rfl rfl (by omega) (by omega) (by decide) ?_
     intro a h
     exact ⟨rfl, h⟩
   clear h; intro a h
   apply dQ0 hF h 19 rfl rfl (by kernel_rfl) (by decide) NoP.np (fun _ => H.sub (by repeat (first | exact ln1 | exact ls1 | exact lr1 | apply lk1 | apply List.Sublist.cons | apply la1)))
   · intro w
     refine sM0 hF h rfl rfl (by decide) ?_
     intro a h
     exact ⟨rfl, h⟩
   clear h; intro a h
   apply dQ0 hF h 20 rfl rfl (by kernel_rfl) (by decide) NoP.np (fun _ => H.sub (by repeat (first | exact ln1 | exact ls1 | exact lr1 | apply lk1 | apply List.Sublist.cons | apply la1)))
   · intro w
     refine sM0 hF h rfl rfl (by decide) ?_
     intro a h
     exact ⟨rfl, h⟩
   clear h; intro a h
   apply dQ0 hF h 21 rfl rfl (by kernel_rfl) (by decide) NoP.np (fun _ => H.sub (by repeat (first | exact ln1 | exact ls1 | exact lr1 | apply lk1 | apply List.Sublist.cons | apply la1)))
   · intro w
     refine i_indexAddr hF h rfl rfl rfl hjl rfl (by decide) ?_
     intro a h
     exact ⟨rfl, h⟩
   clear h; intro a h
   apply dP0 hF h 22 rfl rfl (by kernel_rfl) (by decide) NoP.np (by kernel_rfl) (H.sub (by repeat (first | exact ln1 | exact ls1 | exact lr1 | apply lk1 | apply List.Sublist.cons | apply la1)))
   · intro w H
     refine i_loadW hF h rfl rfl (hcell H) (by decide) ?_
     intro a h
     exact ⟨rfl, h⟩
   clear h; intro a h
   apply dQ0 hF h 23 rfl rfl (by kernel_rfl) (by decide) NoP.np (fun _ => H.sub (by repeat (first | exact ln1 | exact ls1 | exact lr1 | apply lk1 | apply List.Sublist.cons | apply la1)))
   · intro w
     refine i_rem hF h rfl rfl rfl (by omega) (by omega) (by decide) ?_
     intro a h
     exact ⟨rfl, h⟩
   clear h; intro a h
   apply dQ0 hF h 24 rfl rfl (by kernel_rfl) (by decide) NoP.np (fun _ => H.sub (by repeat (first | exact ln1 | exact ls1 | exact lr1 | apply lk1 | apply List.Sublist.cons | apply la1)))
   · intro w
     refine i_arith hF h rfl rfl rfl rfl (by simp only [IntKind.min, IntKind.signed, IntKind.bits, Bool.false_eq_true, if_false]; omega) (by simp only [IntKind.max, IntKind.signed, IntKind.bits, Bool.false_eq_true, if_false]; omega) (by decide) ?_
     intro a h
     exact ⟨rfl, h⟩
   clear h; intro a h
   rw [m17, m16] at h
   apply dQ0 hF h 25 rfl rfl (by kernel_rfl) (by decide) NoP.np (fun _ => H.sub (by repeat (first | exact ln1 | exact ls1 | exact lr1 | apply lk1 | apply List.Sublist.cons | apply la1)))
   · intro w
     refine i_sliceS (l := digs) (i := x.toNat % 16) (j := x.toNat % 16 + 1) hF h rfl rfl ⟨.u8, rfl⟩ ⟨.u8, rfl⟩ (by omega) (by show _ ≤ 16; omega) (by decide) ?_
     intro a h; rw [digs_slice _ (by omega)] at h
     exact ⟨rfl, h⟩
   clear h; intro a h
   apply dQ0 hF h 26 rfl rfl (by kernel_rfl) (by decide) NoP.np (fun _ => H.sub (by repeat (first | exact ln1 | exact ls1 | exact lr1 | apply lk1 | apply List.Sublist.cons | apply la1)))
   · intro w
     refine i_addS hF h rfl rfl rfl (by first | omega | (simp only [List.length_cons, List.length_nil, List.length_append]; omega)) (by decide) ?_
     intro a h
     exact ⟨rfl, h⟩
   clear h; intro a h
   apply dQ0 hF h 27 rfl rfl (by kernel_rfl) (by decide) NoP.np (fun _ => H.sub (by repeat (first | exact ln1 | exact ls1 | exact lr1 | apply lk1 | apply List.Sublist.cons | apply la1)))
   · intro w
     refine sA0 hF h rfl rfl (by decide) ?_
     intro a h
     exact ⟨rfl, h⟩
   clear h; intro a h
   first | refine d_endThen (by kernel_rfl) ?_ | refine d_endQ (by kernel_rfl) ?_
   with_reducible repeat (first | refine xa0 ?_ | refine xb0 ?_ | refine xc0 ?_ | refine xd0 ?_ | refine xe0 (by decide) ?_ | refine xf0 ?_ | refine xg0 ?_ | refine xh0 ?_ | refine xi0 ?_)
   repeat refine cS0 ?_
   refine cR0 ?_
   refine sM0 hF h rfl rfl (by decide) ?_
   clear h; intro a h
   refine i_ar64 hF h rfl rfl rfl rfl (by omega) (by omega) (by decide) ?_
   clear h; intro a h
   refine sA0 hF h rfl rfl (by decide) ?_
   clear h; intro a h
   refine cE0 ?_
   refine ⟨l.length - (j + 1), by omega, j + 1, rfl, by omega, ?_, H⟩
   have e : [48, 120] ++ hexs (l.take (j + 1)) = [48, 120] ++ hexs (l.take j) ++ [hexd (x.toNat / 16)] ++ [hexd (x.toNat % 16)] := by
    rw [List.take_add_one, hx]
    simp [hexs]
   rw [e]
   exact (h.sub (by repeat (first | exact trivial | refine ⟨rfl, ?_⟩)))
 · repeat refine cS0 ?_
   refine cR0 ?_
   refine sM0 hF h rfl rfl (by decide) ?_
   clear h; intro a h
   refine sM0 hF h rfl rfl (by decide) ?_
   clear h; intro a h
   refine i_lenB hF h rfl rfl (hB.at H (Nat.le_refl _)) (by decide) ?_
   clear h; intro a h
   (first | (refine iC0 hF h rfl rfl rfl (i_lss_t (by omega)) (by decide) ?_) | (refine iC0 hF h rfl rfl rfl (i_lss_f (by omega)) (by decide) ?_))
   clear h; intro a h
   first | refine cEt0 ?_ | refine cE0 ?_
   repeat refine cS0 ?_
   refine c_condF h rfl ?_
   refine c_exit ?_
   with_reducible repeat (first | refine xa0 ?_ | refine xb0 ?_ | refine xc0 ?_ | refine xd0 ?_ | refine xe0 (by decide) ?_ | refine xf0 ?_ | refine xg0 ?_ | refine xh0 ?_ | refine xi0 ?_)
   have hj3 : j = l.length := by omega
   subst hj3
   rw [List.take_length] at h
   repeat refine cS0 ?_
   refine cR0 ?_
   refine sM0 hF h rfl rfl (by decide) ?_
   clear h; intro a h
   refine sA0 hF h rfl rfl (by decide) ?_
   clear h; intro a h
   first | refine cEt0 ?_ | refine cE0 ?_
   refine c_ret ?_
   with_reducible repeat (first | refine xa0 ?_ | refine xb0 ?_ | refine xc0 ?_ | refine xd0 ?_ | refine xe0 (by decide) ?_ | refine xf0 ?_ | refine xg0 ?_ | refine xh0 ?_ | refine xi0 ?_)
   refine leave (fn := Tryz.f36) h Tryz.results36 (.tmp rfl (.nil)) ?_
   exact ⟨_, rfl, rfl, H.done⟩
end Go.Proofs.YtjlmpghcjgbfjaaGreatDoor.Cw
namespace Go.Proofs.YtjlmpghcjgbfjaaGreatDoor.Cw
open Go Go.RowKit Go.Proofs Ex Cd
set_option maxRecDepth 100000
theorem join_app : ∀ (A B : List (List UInt8)), A ≠ [] → B ≠ [] → Cd.join (A ++ B) = Cd.join A ++ 32 :: Cd.join B
 | [], _, h, _ => absurd rfl h
 | [x], B, _, hB => by
  cases B with
  | nil => exact absurd rfl hB
  | cons y B => rw [List.singleton_append, join_cons2, join_one]
 | x :: y :: A, B, _, hB => by
  rw [List.cons_append, List.cons_append, join_cons2, join_cons2, ← List.cons_append, join_app (y :: A) B (by simp) hB]
  simp
def upToOp (c : List UInt8) (i : Nat) : List (List UInt8) := ((ops c).take i).flatMap (wordsAt c)
theorem upToOp_more (c : List UInt8) (i k : Nat) (h : (ops c)[i]? = some k) : upToOp c (i + 1) = upToOp c i ++ wordsAt c k := by
 unfold upToOp
 rw [List.take_add_one, h]
 simp
theorem upToOp_all (c : List UInt8) : upToOp c (ops c).length = words c := by
 rw [words_all, upToOp, List.take_length]
theorem upToOp_ne (c : List UInt8) (i : Nat) (h : 0 < i) (hi : i ≤ (ops c).length) : upToOp c i ≠ [] := by
 intro e
 have h1 : 0 < ((ops c).take i).length := by rw [List.length_take]; omega
 cases ht : (ops c).take i with
 | nil => rw [ht] at h1; simp at h1
 | cons k r =>
  unfold upToOp at e
  rw [ht, List.flatMap_cons] at e
  have := (wordsOf_length (c.getD k 0) (c.drop (k + 1))).1
  have e2 := congrArg List.length e
  simp only [List.length_append, List.length_nil, wordsAt] at e2
  omega
theorem upToOp_len (c : List UInt8) (i : Nat) : (Cd.join (upToOp c i)).length ≤ 134 * c.length := by
 have hm : ∀ x ∈ upToOp c i, x ∈ words c := by
  intro x hx
  rw [words_all]
  unfold upToOp at hx
  obtain ⟨k, hk, hxk⟩ := List.mem_flatMap.1 hx
  exact List.mem_flatMap.2 ⟨k, List.mem_of_mem_take hk, hxk⟩
 have h1 := join_length (upToOp c i) fun x hx => (wordsN_plain _ _ x (hm x hx)).2
 have h2 := words_count c ((ops c).take i)
 have h3 := ops_length c.length 0 c
 have h4 : ((ops c).take i).length ≤ c.length := by rw [List.length_take]; unfold ops; omega
 unfold upToOp at *
 omega
/-- what stands ahead of the i-th op's words -/
def ahead (c : List UInt8) (i : Nat) : List UInt8 := if i = 0 then [] else Cd.join (upToOp c i) ++ [32]
theorem ahead_more (c : List UInt8) (i k : Nat) (h : (ops c)[i]? = some k) : Cd.join (upToOp c (i + 1)) = ahead c i ++ Cd.join (wordsAt c k) := by
 have hi : i < (ops c).length := (List.getElem?_eq_some_iff.1 h).1
 rw [upToOp_more c i k h]
 unfold ahead
 by_cases h0 : i = 0
 · subst h0; simp [upToOp]
 · rw [if_neg h0, join_app _ _ (upToOp_ne c i (by omega) (by omega)) (by
    intro e
    have := (wordsOf_length (c.getD k 0) (c.drop (k + 1))).1
    unfold wordsAt at e
    rw [e] at this
    simp at this)]
   simp
theorem rtext_ret (v : Value) (c : List UInt8) (hc : c.length ≤ 1000) (w0 : World) (hB : BS w0 v c) : Rets Tryz.prog 13 [v] w0 fun u w' => u = str (Cd.text c) ∧ Below w0.heap.size w0 w' := by
 refine enter Tryz.func13 rfl (Nat.le_of_ble_eq_true rfl) ?_
 intro a h; rw [Tryz.ntmps13] at h
 have hF := Fd.wide; have H := St.begin w0
 repeat refine cS0 ?_
 refine cR0 ?_
 refine sA0 hF h rfl rfl (by decide) ?_
 clear h; intro a h
 first | refine cEt0 ?_ | refine cE0 ?_
 repeat refine cS0 ?_
 refine cR0 ?_
 refine sA0 hF h rfl rfl (by decide) ?_
 clear h; intro a h
 first | refine cEt0 ?_ | refine cE0 ?_
 repeat refine cS0 ?_
 refine cR0 ?_
 refine sM0 hF h rfl rfl (by decide) ?_
 clear h; intro a h
 refine i_call hF h rfl (rops_ret v c (by omega) _ hB) rfl (by decide) ?_
 clear h; rintro vo w hg a h; obtain ⟨R, hr, H2⟩ := H.row hg; replace H := H2; clear H2 hg
 refine sA0 hF h rfl rfl (by decide) ?_
 clear h; intro a h
 first | refine cEt0 ?_ | refine cE0 ?_
 repeat refine cS0 ?_
 refine cR0 ?_
 refine sA0 hF h rfl rfl (by decide) ?_
 clear h; intro a h
 first | refine cEt0 ?_ | refine cE0 ?_
 have hO : ∀ {w' : World}, St w0.heap.size w0 (R ++ []) w' → ES (fun k : Nat => int k) w' vo (ops c) := fun H' => (ES.row (l := ops c) hr H').1
 repeat refine cS0 ?_
 refine c_block ?_
 refine c_loopN (fun q a' w' => ∃ i, q = (ops c).length - i ∧ i ≤ (ops c).length ∧ Fr 59 [] [(5, int (i : Nat)), (4, vo), (3, str (Cd.join (upToOp c i))), (0, v)] a' ∧ St w0.heap.size w0 (R ++ []) w') (ops c).length ⟨0, rfl, by omega, (h.sub (by repeat (first | exact trivial | refine ⟨rfl, ?_⟩))), by rw [List.append_nil] at *; exact H⟩ ?_
 clear h H
 rintro q a w ⟨i, rfl, hi, h, H⟩
 by_cases hi1 : i < (ops c).length
 · repeat refine cS0 ?_
   refine cR0 ?_
   refine sM0 hF h rfl rfl (by decide) ?_
   clear h; intro a h
   refine sM0 hF h rfl rfl (by decide) ?_
   clear h; intro a h
   refine i_lenB hF h rfl rfl (hO H) (by decide) ?_
   clear h; intro a h
   (first | (refine iC0 hF h rfl rfl rfl (i_lss_t (by omega)) (by decide) ?_) | (refine iC0 hF h rfl rfl rfl (i_lss_f (by omega)) (by decide) ?_))
   clear h; intro a h
   first | refine cEt0 ?_ | refine cE0 ?_
   repeat refine cS0 ?_
   refine c_condT h rfl ?_
   first | refine cKt0 ?_ | refine cK0 ?_
   obtain ⟨k, hi2⟩ : ∃ k, (ops c)[i]? = some k := ⟨_, List.getElem?_eq_getElem hi1⟩
   have hkc : k < c.length := ops_lt c.length 0 c k (List.mem_of_getElem? hi2)
   obtain ⟨x, hx⟩ : ∃ x, c[k]? = some x := ⟨_, List.getElem?_eq_getElem hkc⟩
   have hxd : c.getD k 0 = x := by rw [List.getD_eq_getElem?_getD, hx]; rfl
   have hlen := upToOp_len c i
   have hol : (ops c).length ≤ c.length := ops_length c.length 0 c
   repeat refine cS0 ?_
   refine c_block ?_
   refine cS0 ?_
   refine c_join (fun a' w' => Fr 59 [] [(5, int (i : Nat)), (4, vo), (3, str (ahead c i)), (0, v)] a' ∧ St w0.heap.size w0 (R ++ []) w') ?_ ?_
   · by_cases h0 : i = 0
     · repeat refine cS0 ?_
       refine cR0 ?_
       refine sM0 hF h rfl rfl (by decide) ?_
       clear h; intro a h
       (first | (refine iC0 hF h rfl rfl rfl (i_gtr_t (by omega)) (by decide) ?_) | (refine iC0 hF h rfl rfl rfl (i_gtr_f (by omega)) (by decide) ?_))
       clear h; intro a h
       first | refine cEt0 ?_ | refine cE0 ?_
       repeat refine cS0 ?_
       refine c_condF h rfl ?_
       first | refine cKt0 ?_ | refine cK0 ?_
       with_reducible repeat (first | refine xa0 ?_ | refine xb0 ?_ | refine xc0 ?_ | refine xd0 ?_ | refine xe0 (by decide) ?_ | refine xf0 ?_ | refine xg0 ?_ | refine xh0 ?_ | refine xi0 ?_)
       refine ⟨?_, H⟩
       have e : ahead c i = Cd.join (upToOp c i) := by subst h0; rfl
       rw [e]
       exact (h.sub (by repeat (first | exact trivial | refine ⟨rfl, ?_⟩)))
     · repeat refine cS0 ?_
       refine cR0 ?_
       refine sM0 hF h rfl rfl (by decide) ?_
       clear h; intro a h
       (first | (refine iC0 hF h rfl rfl rfl (i_gtr_t (by omega)) (by decide) ?_) | (refine iC0 hF h rfl rfl rfl (i_gtr_f (by omega)) (by decide) ?_))
       clear h; intro a h
       first | refine cEt0 ?_ | refine cE0 ?_
       repeat refine cS0 ?_
       refine c_condT h rfl ?_
       repeat refine cS0 ?_
       refine cR0 ?_
       refine sM0 hF h rfl rfl (by decide) ?_
       clear h; intro a h
       refine i_addS hF h rfl rfl rfl (by first | omega | (simp only [List.length_cons, List.length_nil]; omega)) (by decide) ?_
       clear h; intro a h
       refine sA0 hF h rfl rfl (by decide) ?_
       clear h; intro a h
       refine cE0 ?_
       refine ⟨?_, H⟩
       have e : ahead c i = Cd.join (upToOp c i) ++ [32] := by unfold ahead; rw [if_neg h0]
       rw [e]
       exact (h.sub (by repeat (first | exact trivial | refine ⟨rfl, ?_⟩)))
   clear h H
   rintro a w ⟨h, H⟩
   have hal : (ahead c i).length ≤ 134 * c.length + 1 := by
    unfold ahead
    split
    · simp
    · rw [List.length_append]; simp; omega
   have hmore := ahead_more c i k hi2
   repeat refine cS0 ?_
   refine cR0 ?_
   refine sM0 hF h rfl rfl (by decide) ?_
   clear h; intro a h
   refine sM0 hF h rfl rfl (by decide) ?_
   clear h; intro a h
   refine sM0 hF h rfl rfl (by decide) ?_
   clear h; intro a h
   refine i_idxB hF h rfl rfl (hO H) rfl hi2 (by decide) ?_
   clear h; intro be bo a hbe h
   refine i_loadW hF h rfl rfl hbe (by decide) ?_
   clear h; intro a h
   refine i_idxB hF h rfl rfl (hB.at H (Nat.le_refl _)) rfl hx (by decide) ?_
   clear h; intro be bo a hbe h
   refine i_loadW hF h rfl rfl hbe (by decide) ?_
   clear h; intro a h
   refine i_call hF h rfl (rinfo_ret x _) rfl (by decide) ?_
   clear h; rintro _ w ⟨rfl, hb⟩ a h; replace H := H.call hb; clear hb
   refine i_alloc hF h H rfl (by decide) ?_
   clear h H; intro a w b6 _ h H
   refine j_storeA hF h H rfl rfl rfl rfl rfl (by repeat (first | exact Upd.here | apply Upd.there | apply Upd.app)) (by repeat (first | exact PutAt.nil | apply PutAt.put | apply PutAt.skip)) ?_
   clear H; intro w H
   first | refine cEt0 ?_ | refine cE0 ?_
   have hO2 : ∀ {E : List (Nat × Obj)} {w' : World}, St w0.heap.size w0 (E ++ (R ++ [])) w' → ES (fun k : Nat => int k) w' vo (ops c) := fun H' => hO (H'.sub (List.sublist_append_right _ _))
   cases hi3 : info x.toNat with
   | none =>
    have hw : wordsAt c k = [Cd.hex [x]] := by unfold wordsAt wordsOf; rw [hxd, hi3]
    simp only [hi3, Option.getD_none] at h H
    repeat refine cS0 ?_
    refine cR0 ?_
    refine iFa0 hF h rfl rfl rfl (by decide) ?_
    clear h; intro a h; try simp only [Nat.reduceAdd] at h
    refine iL0 hF h H rfl rfl (by repeat (first | exact mh1 | apply mt1 | apply ma1)) (by exact rfl) (by decide) ?_
    clear h; intro a h
    refine i_eqS hF h rfl rfl rfl rfl (by decide) ?_
    clear h; intro a h
    first | refine cEt0 ?_ | refine cE0 ?_
    repeat refine cS0 ?_
    refine c_condT h rfl ?_
    have hhex : (Cd.hex [x]).length = 4 := rfl
    replace H : St w0.heap.size w0 ([(b6, _)] ++ (R ++ [])) w := H
    repeat refine cS0 ?_
    refine cR0 ?_
    refine sM0 hF h rfl rfl (by decide) ?_
    clear h; intro a h
    refine sM0 hF h rfl rfl (by decide) ?_
    clear h; intro a h
    refine sM0 hF h rfl rfl (by decide) ?_
    clear h; intro a h
    refine sM0 hF h rfl rfl (by decide) ?_
    clear h; intro a h
    refine i_idxB hF h rfl rfl (hO2 H) rfl hi2 (by decide) ?_
    clear h; intro be bo a hbe h
    refine i_loadW hF h rfl rfl hbe (by decide) ?_
    clear h; intro a h
    refine i_idxB hF h rfl rfl (hB.at H (Nat.le_refl _)) rfl hx (by decide) ?_
    clear h; intro be bo a hbe h
    refine i_loadW hF h rfl rfl hbe (by decide) ?_
    clear h; intro a h
    refine i_buildSlice hF h H rfl rfl (by decide) (by decide) rfl (by decide) ?_
    clear h H; intro a w b38 _ h H
    refine i_call hF h rfl (rhex_ret _ [x] (by simp) _ (ES_own (cs := [x]) (H.mem (List.Mem.head _)))) rfl (by decide) ?_
    clear h; rintro _ w ⟨rfl, hb⟩ a h; replace H := H.call hb; clear hb
    refine i_addS hF h rfl rfl rfl (by first | omega | (simp only [List.length_cons, List.length_nil, List.length_append]; omega)) (by decide) ?_
    clear h; intro a h
    refine sA0 hF h rfl rfl (by decide) ?_
    clear h; intro a h
    first | refine cEt0 ?_ | refine cE0 ?_
    refine c_exit ?_
    with_reducible repeat (first | refine xa0 ?_ | refine xb0 ?_ | refine xc0 ?_ | refine xd0 ?_ | refine xe0 (by decide) ?_ | refine xf0 ?_ | refine xg0 ?_ | refine xh0 ?_ | refine xi0 ?_)
    rw [hw, join_one] at hmore
    rw [← hmore] at h
    replace H : St w0.heap.size w0 (R ++ []) w := H.sub (.cons _ (.cons _ (.refl _)))
    repeat refine cS0 ?_
    refine cR0 ?_
    refine sM0 hF h rfl rfl (by decide) ?_
    clear h; intro a h
    refine i_ar64 hF h rfl rfl rfl rfl (by omega) (by omega) (by decide) ?_
    clear h; intro a h
    refine sA0 hF h rfl rfl (by decide) ?_
    clear h; intro a h
    refine cE0 ?_
    exact ⟨(ops c).length - (i + 1), by omega, i + 1, rfl, by omega, (h.sub (by repeat (first | exact trivial | refine ⟨rfl, ?_⟩))), H⟩
   | some y =>
    have hy := name_plain x.toNat y x.toNat_lt hi3
    simp only [Bool.and_eq_true, decide_eq_true_eq] at hy
    have hsz := size_known x.toNat y x.toNat_lt hi3
    simp only [hi3, Option.getD_some] at h H
    repeat refine cS0 ?_
    refine cR0 ?_
    refine iFa0 hF h rfl rfl rfl (by decide) ?_
    clear h; intro a h; try simp only [Nat.reduceAdd] at h
    refine iL0 hF h H rfl rfl (by repeat (first | exact mh1 | apply mt1 | apply ma1)) (by exact rfl) (by decide) ?_
    clear h; intro a h
    refine i_eqS hF h rfl rfl rfl (show (y.1 == []) = false from beq_eq_false_iff_ne.2 (fun e => by rw [e] at hy; simp at hy)) (by decide) ?_
    clear h; intro a h
    refine cEt0 ?_
    repeat refine cS0 ?_
    refine c_condF h rfl ?_
    first | refine cKt0 ?_ | refine cK0 ?_
    repeat refine cS0 ?_
    refine cR0 ?_
    refine sM0 hF h rfl rfl (by decide) ?_
    clear h; intro a h
    refine iFa0 hF h rfl rfl rfl (by decide) ?_
    clear h; intro a h; try simp only [Nat.reduceAdd] at h
    refine iL0 hF h H rfl rfl (by repeat (first | exact mh1 | apply mt1 | apply ma1)) (by exact rfl) (by decide) ?_
    clear h; intro a h
    refine i_addS hF h rfl rfl rfl (by first | omega | (simp only [List.length_cons, List.length_nil, List.length_append]; omega)) (by decide) ?_
    clear h; intro a h
    refine sA0 hF h rfl rfl (by decide) ?_
    clear h; intro a h
    first | refine cEt0 ?_ | refine cE0 ?_
    by_cases h0 : sz x.toNat = 0
    · have hw : wordsAt c k = [y.1] := by unfold wordsAt wordsOf; rw [hxd, hi3]; simp only [if_pos h0]
      repeat refine cS0 ?_
      refine cR0 ?_
      refine iFa0 hF h rfl rfl rfl (by decide) ?_
      clear h; intro a h; try simp only [Nat.reduceAdd] at h
      refine iL0 hF h H rfl rfl (by repeat (first | exact mh1 | apply mt1 | apply ma1)) (by exact rfl) (by decide) ?_
      clear h; intro a h
      (first | (refine iC0 hF h rfl rfl rfl (i_gtr_t (by omega)) (by decide) ?_) | (refine iC0 hF h rfl rfl rfl (i_gtr_f (by omega)) (by decide) ?_))
      clear h; intro a h
      first | refine cEt0 ?_ | refine cE0 ?_
      repeat refine cS0 ?_
      refine c_condF h rfl ?_
      refine cK0 ?_
      with_reducible repeat (first | refine xa0 ?_ | refine xb0 ?_ | refine xc0 ?_ | refine xd0 ?_ | refine xe0 (by decide) ?_ | refine xf0 ?_ | refine xg0 ?_ | refine xh0 ?_ | refine xi0 ?_)
      rw [hw, join_one] at hmore
      rw [← hmore] at h
      replace H : St w0.heap.size w0 (R ++ []) w := H.sub (.cons _ (.refl _))
      repeat refine cS0 ?_
      refine cR0 ?_
      refine sM0 hF h rfl rfl (by decide) ?_
      clear h; intro a h
      refine i_ar64 hF h rfl rfl rfl rfl (by omega) (by omega) (by decide) ?_
      clear h; intro a h
      refine sA0 hF h rfl rfl (by decide) ?_
      clear h; intro a h
      refine cE0 ?_
      exact ⟨(ops c).length - (i + 1), by omega, i + 1, rfl, by omega, (h.sub (by repeat (first | exact trivial | refine ⟨rfl, ?_⟩))), H⟩
    · have hw : wordsAt c k = [y.1, Cd.hex (pad (sz x.toNat) (c.drop (k + 1)))] := by unfold wordsAt wordsOf; rw [hxd, hi3]; simp only [if_neg h0]
      have hs32 := sz_le x.toNat
      have hpl := pad_length (sz x.toNat) (c.drop (k + 1))
      have hhl : (Cd.hex (pad (sz x.toNat) (c.drop (k + 1)))).length ≤ 66 := by simp only [Cd.hex, List.length_cons, hexs_length, hpl]; omega
      repeat refine cS0 ?_
      refine cR0 ?_
      refine iFa0 hF h rfl rfl rfl (by decide) ?_
      clear h; intro a h; try simp only [Nat.reduceAdd] at h
      refine iL0 hF h H rfl rfl (by repeat (first | exact mh1 | apply mt1 | apply ma1)) (by exact rfl) (by decide) ?_
      clear h; intro a h
      (first | (refine iC0 hF h rfl rfl rfl (i_gtr_t (by omega)) (by decide) ?_) | (refine iC0 hF h rfl rfl rfl (i_gtr_f (by omega)) (by decide) ?_))
      clear h; intro a h
      first | refine cEt0 ?_ | refine cE0 ?_
      repeat refine cS0 ?_
      refine c_condT h rfl ?_
      replace H : St w0.heap.size w0 ([(b6, _)] ++ (R ++ [])) w := H
      repeat refine cS0 ?_
      refine cR0 ?_
      refine sM0 hF h rfl rfl (by decide) ?_
      clear h; intro a h
      refine i_addS hF h rfl rfl rfl (by first | omega | (simp only [List.length_cons, List.length_nil, List.length_append]; omega)) (by decide) ?_
      clear h; intro a h
      refine sM0 hF h rfl rfl (by decide) ?_
      clear h; intro a h
      refine sM0 hF h rfl rfl (by decide) ?_
      clear h; intro a h
      refine sM0 hF h rfl rfl (by decide) ?_
      clear h; intro a h
      refine i_idxB hF h rfl rfl (hO2 H) rfl hi2 (by decide) ?_
      clear h; intro be bo a hbe h
      refine i_loadW hF h rfl rfl hbe (by decide) ?_
      clear h; intro a h
      refine i_call hF h rfl (rbehind_ret v c k x (by omega) _ (hB.at H (Nat.le_refl _)) hx) rfl (by decide) ?_
      clear h; rintro vb w hg a h; obtain ⟨R2, hr2, H2⟩ := H.row hg; replace H := H2; clear H2 hg
      refine i_call hF h rfl (rhex_ret _ _ (by omega) _ (ES.row hr2 H).1) rfl (by decide) ?_
      clear h; rintro _ w ⟨rfl, hb⟩ a h; replace H := H.call hb; clear hb
      refine i_addS hF h rfl rfl rfl (by first | omega | (simp only [List.length_cons, List.length_nil, List.length_append]; omega)) (by decide) ?_
      clear h; intro a h
      refine sA0 hF h rfl rfl (by decide) ?_
      clear h; intro a h
      refine cE0 ?_
      with_reducible repeat (first | refine xa0 ?_ | refine xb0 ?_ | refine xc0 ?_ | refine xd0 ?_ | refine xe0 (by decide) ?_ | refine xf0 ?_ | refine xg0 ?_ | refine xh0 ?_ | refine xi0 ?_)
      rw [hw, join_cons2, join_one] at hmore
      have e : ahead c i ++ y.1 ++ [32] ++ Cd.hex (pad (sz x.toNat) (c.drop (k + 1))) = Cd.join (upToOp c (i + 1)) := by rw [hmore]; simp
      rw [e] at h
      replace H : St w0.heap.size w0 (R ++ []) w := H.sub (List.sublist_append_of_sublist_right (.cons _ (.refl _)))
      repeat refine cS0 ?_
      refine cR0 ?_
      refine sM0 hF h rfl rfl (by decide) ?_
      clear h; intro a h
      refine i_ar64 hF h rfl rfl rfl rfl (by omega) (by omega) (by decide) ?_
      clear h; intro a h
      refine sA0 hF h rfl rfl (by decide) ?_
      clear h; intro a h
      refine cE0 ?_
      exact ⟨(ops c).length - (i + 1), by omega, i + 1, rfl, by omega, (h.sub (by repeat (first | exact trivial | refine ⟨rfl, ?_⟩))), H⟩
 · repeat refine cS0 ?_
   refine cR0 ?_
   refine sM0 hF h rfl rfl (by decide) ?_
   clear h; intro a h
   refine sM0 hF h rfl rfl (by decide) ?_
   clear h; intro a h
   refine i_lenB hF h rfl rfl (hO H) (by decide) ?_
   clear h; intro a h
   (first | (refine iC0 hF h rfl rfl rfl (i_lss_t (by omega)) (by decide) ?_) | (refine iC0 hF h rfl rfl rfl (i_lss_f (by omega)) (by decide) ?_))
   clear h; intro a h
   first | refine cEt0 ?_ | refine cE0 ?_
   repeat refine cS0 ?_
   refine c_condF h rfl ?_
   refine c_exit ?_
   with_reducible repeat (first | refine xa0 ?_ | refine xb0 ?_ | refine xc0 ?_ | refine xd0 ?_ | refine xe0 (by decide) ?_ | refine xf0 ?_ | refine xg0 ?_ | refine xh0 ?_ | refine xi0 ?_)
   have hi3 : i = (ops c).length := by omega
   rw [hi3, upToOp_all] at h
   repeat refine cS0 ?_
   refine cR0 ?_
   refine sM0 hF h rfl rfl (by decide) ?_
   clear h; intro a h
   refine sA0 hF h rfl rfl (by decide) ?_
   clear h; intro a h
   first | refine cEt0 ?_ | refine cE0 ?_
   refine c_ret ?_
   with_reducible repeat (first | refine xa0 ?_ | refine xb0 ?_ | refine xc0 ?_ | refine xd0 ?_ | refine xe0 (by decide) ?_ | refine xf0 ?_ | refine xg0 ?_ | refine xh0 ?_ | refine xi0 ?_)
   refine leave (fn := Tryz.f13) h Tryz.results13 (.tmp rfl (.nil)) ?_
   exact ⟨_, rfl, rfl, H.done⟩
end Go.Proofs.YtjlmpghcjgbfjaaGreatDoor.Cw
namespace Go.Proofs.YtjlmpghcjgbfjaaGreatDoor.Cw
open Go Go.RowKit Go.Proofs Ex Cd
set_option maxRecDepth 100000
theorem rnamed_ret (nm : List UInt8) (w0 : World) : Rets Tryz.prog 34 [str nm] w0 fun v w' => v = namedV nm ∧ Below w0.heap.size w0 w' := by
 refine enter Tryz.func34 rfl (Nat.le_of_ble_eq_true rfl) ?_
 intro a h; rw [Tryz.ntmps34] at h
 have hF := Fd.wide; have H := St.begin w0
 repeat refine cS0 ?_
 refine cR0 ?_
 refine sA0 hF h rfl rfl (by decide) ?_
 clear h; intro a h
 refine sA0 hF h rfl rfl (by decide) ?_
 clear h; intro a h
 first | refine cEt0 ?_ | refine cE0 ?_
 repeat refine cS0 ?_
 refine cR0 ?_
 refine sA0 hF h rfl rfl (by decide) ?_
 clear h; intro a h
 first | refine cEt0 ?_ | refine cE0 ?_
 repeat refine cS0 ?_
 refine c_block ?_
 refine c_loopN (fun q a' w' => ∃ j, q = 256 - j ∧ j ≤ 256 ∧ (∀ k x, k < j → info k = some x → x.1 ≠ nm) ∧ Fr 24 [] [(4, int (j : Nat)), (0, str nm)] a' ∧ St w0.heap.size w0 [] w') 256 ⟨0, rfl, by omega, fun k x hk => absurd hk (by omega), (h.sub (by repeat (first | exact trivial | refine ⟨rfl, ?_⟩))), H⟩ ?_
 clear h H
 rintro q a w ⟨j, rfl, hj, hno, h, H⟩
 by_cases hj2 : j < 256
 · repeat refine cS0 ?_
   refine cR0 ?_
   refine sM0 hF h rfl rfl (by decide) ?_
   clear h; intro a h
   (first | (refine iC0 hF h rfl rfl rfl (i_lss_t (by omega)) (by decide) ?_) | (refine iC0 hF h rfl rfl rfl (i_lss_f (by omega)) (by decide) ?_))
   clear h; intro a h
   first | refine cEt0 ?_ | refine cE0 ?_
   repeat refine cS0 ?_
   refine c_condT h rfl ?_
   first | refine cKt0 ?_ | refine cK0 ?_
   obtain ⟨x, rfl⟩ : ∃ x : UInt8, x.toNat = j := ⟨UInt8.ofNat j, by simp; omega⟩
   repeat refine cS0 ?_
   refine c_block ?_
   repeat refine cS0 ?_
   refine cR0 ?_
   refine sM0 hF h rfl rfl (by decide) ?_
   clear h; intro a h
   refine i_conv hF h rfl rfl (wrapTo _ _ (by simp only [IntKind.min, IntKind.signed, IntKind.bits, Bool.false_eq_true, if_false]; omega) (by simp only [IntKind.max, IntKind.signed, IntKind.bits, Bool.false_eq_true, if_false]; omega)) (by decide) ?_
   clear h; intro a h
   refine i_call hF h rfl (rinfo_ret x _) rfl (by decide) ?_
   clear h; rintro _ w ⟨rfl, hb⟩ a h; replace H := H.call hb; clear hb
   refine i_alloc hF h H rfl (by decide) ?_
   clear h H; intro a w b5 _ h H
   refine j_storeA hF h H rfl rfl rfl rfl rfl (by repeat (first | exact Upd.here | apply Upd.there | apply Upd.app)) (by repeat (first | exact PutAt.nil | apply PutAt.put | apply PutAt.skip)) ?_
   clear H; intro w H
   first | refine cEt0 ?_ | refine cE0 ?_
   cases hi : info x.toNat with
   | none =>
    simp only [hi, Option.getD_none] at h H
    repeat refine cS0 ?_
    refine cR0 ?_
    refine iFa0 hF h rfl rfl rfl (by decide) ?_
    clear h; intro a h; try simp only [Nat.reduceAdd] at h
    refine iL0 hF h H rfl rfl (by repeat (first | exact mh1 | apply mt1 | apply ma1)) (by exact rfl) (by decide) ?_
    clear h; intro a h
    refine i_neS hF h rfl rfl rfl rfl (by decide) ?_
    clear h; intro a h
    refine sM0 hF h rfl rfl (by decide) ?_
    clear h; intro a h
    first | (refine sK0 hF h rfl (by decide) ?_; clear h; intro a h) | (refine iFa0 hF h rfl rfl rfl (by decide) ?_; clear h; intro a h; try simp only [Nat.reduceAdd] at h)
    first | (refine sK0 hF h rfl (by decide) ?_; clear h; intro a h) | (refine iL0 hF h H rfl rfl (by repeat (first | exact mh1 | apply mt1 | apply ma1)) (by exact rfl) (by decide) ?_; clear h; intro a h)
    first | (refine sK0 hF h rfl (by decide) ?_; clear h; intro a h) | (refine sM0 hF h rfl rfl (by decide) ?_; clear h; intro a h)
    first | (refine sK0 hF h rfl (by decide) ?_; clear h; intro a h) | (refine i_eqS hF h rfl rfl rfl rfl (by decide) ?_; clear h; intro a h)
    refine s_pick hF h rfl rfl rfl (by decide) ?_
    clear h; intro a h
    first | refine cEt0 ?_ | refine cE0 ?_
    repeat refine cS0 ?_
    refine c_condF h rfl ?_
    first | refine cKt0 ?_ | refine cK0 ?_
    with_reducible repeat (first | refine xa0 ?_ | refine xb0 ?_ | refine xc0 ?_ | refine xd0 ?_ | refine xe0 (by decide) ?_ | refine xf0 ?_ | refine xg0 ?_ | refine xh0 ?_ | refine xi0 ?_)
    replace H : St w0.heap.size w0 [] w := H.sub (.cons _ (.refl _))
    repeat refine cS0 ?_
    refine cR0 ?_
    refine sM0 hF h rfl rfl (by decide) ?_
    clear h; intro a h
    refine i_ar64 hF h rfl rfl rfl rfl (by omega) (by omega) (by decide) ?_
    clear h; intro a h
    refine sA0 hF h rfl rfl (by decide) ?_
    clear h; intro a h
    refine cE0 ?_
    refine ⟨256 - (x.toNat + 1), by omega, x.toNat + 1, rfl, by omega, ?_, (h.sub (by repeat (first | exact trivial | refine ⟨rfl, ?_⟩))), H⟩
    intro k y hk hy
    by_cases e : k = x.toNat
    · subst e; rw [hi] at hy; cases hy
    · exact hno k y (by omega) hy
   | some y =>
    have hy := name_plain x.toNat y x.toNat_lt hi
    simp only [Bool.and_eq_true, decide_eq_true_eq] at hy
    simp only [hi, Option.getD_some] at h H
    by_cases he : y.1 = nm
    · skip
      repeat refine cS0 ?_
      refine cR0 ?_
      refine iFa0 hF h rfl rfl rfl (by decide) ?_
      clear h; intro a h; try simp only [Nat.reduceAdd] at h
      refine iL0 hF h H rfl rfl (by repeat (first | exact mh1 | apply mt1 | apply ma1)) (by exact rfl) (by decide) ?_
      clear h; intro a h
      refine i_neS hF h rfl rfl rfl (show (!(y.1 == [])) = true by simp; intro e; rw [e] at hy; simp at hy) (by decide) ?_
      clear h; intro a h
      refine sM0 hF h rfl rfl (by decide) ?_
      clear h; intro a h
      first | (refine sK0 hF h rfl (by decide) ?_; clear h; intro a h) | (refine iFa0 hF h rfl rfl rfl (by decide) ?_; clear h; intro a h; try simp only [Nat.reduceAdd] at h)
      first | (refine sK0 hF h rfl (by decide) ?_; clear h; intro a h) | (refine iL0 hF h H rfl rfl (by repeat (first | exact mh1 | apply mt1 | apply ma1)) (by exact rfl) (by decide) ?_; clear h; intro a h)
      first | (refine sK0 hF h rfl (by decide) ?_; clear h; intro a h) | (refine sM0 hF h rfl rfl (by decide) ?_; clear h; intro a h)
      first | (refine sK0 hF h rfl (by decide) ?_; clear h; intro a h) | (refine i_eqS hF h rfl rfl rfl (show (y.1 == nm) = true from beq_iff_eq.2 he) (by decide) ?_; clear h; intro a h)
      refine s_pick hF h rfl rfl rfl (by decide) ?_
      clear h; intro a h
      first | refine cEt0 ?_ | refine cE0 ?_
      repeat refine cS0 ?_
      refine c_condT h rfl ?_
      repeat refine cS0 ?_
      refine cR0 ?_
      refine sM0 hF h rfl rfl (by decide) ?_
      clear h; intro a h
      refine i_conv hF h rfl rfl (wrapTo _ _ (by simp only [IntKind.min, IntKind.signed, IntKind.bits, Bool.false_eq_true, if_false]; omega) (by simp only [IntKind.max, IntKind.signed, IntKind.bits, Bool.false_eq_true, if_false]; omega)) (by decide) ?_
      clear h; intro a h
      refine sA0 hF h rfl rfl (by decide) ?_
      clear h; intro a h
      refine sA0 hF h rfl rfl (by decide) ?_
      clear h; intro a h
      first | refine cEt0 ?_ | refine cE0 ?_
      refine c_ret ?_
      with_reducible repeat (first | refine xa0 ?_ | refine xb0 ?_ | refine xc0 ?_ | refine xd0 ?_ | refine xe0 (by decide) ?_ | refine xf0 ?_ | refine xg0 ?_ | refine xh0 ?_ | refine xi0 ?_)
      refine leave (fn := Tryz.f34) h Tryz.results34 (.tmp rfl (.tmp rfl (.nil))) ?_
      have hnm := named_of nm x.toNat y x.toNat_lt hi he
      exact ⟨_, rfl, by simp [namedV, hnm, tupleOf], H.done⟩
    · skip
      repeat refine cS0 ?_
      refine cR0 ?_
      refine iFa0 hF h rfl rfl rfl (by decide) ?_
      clear h; intro a h; try simp only [Nat.reduceAdd] at h
      refine iL0 hF h H rfl rfl (by repeat (first | exact mh1 | apply mt1 | apply ma1)) (by exact rfl) (by decide) ?_
      clear h; intro a h
      refine i_neS hF h rfl rfl rfl (show (!(y.1 == [])) = true by simp; intro e; rw [e] at hy; simp at hy) (by decide) ?_
      clear h; intro a h
      refine sM0 hF h rfl rfl (by decide) ?_
      clear h; intro a h
      first | (refine sK0 hF h rfl (by decide) ?_; clear h; intro a h) | (refine iFa0 hF h rfl rfl rfl (by decide) ?_; clear h; intro a h; try simp only [Nat.reduceAdd] at h)
      first | (refine sK0 hF h rfl (by decide) ?_; clear h; intro a h) | (refine iL0 hF h H rfl rfl (by repeat (first | exact mh1 | apply mt1 | apply ma1)) (by exact rfl) (by decide) ?_; clear h; intro a h)
      first | (refine sK0 hF h rfl (by decide) ?_; clear h; intro a h) | (refine sM0 hF h rfl rfl (by decide) ?_; clear h; intro a h)
      first | (refine sK0 hF h rfl (by decide) ?_; clear h; intro a h) | (refine i_eqS hF h rfl rfl rfl (show (y.1 == nm) = false from beq_eq_false_iff_ne.2 he) (by decide) ?_; clear h; intro a h)
      refine s_pick hF h rfl rfl rfl (by decide) ?_
      clear h; intro a h
      first | refine cEt0 ?_ | refine cE0 ?_
      repeat refine cS0 ?_
      refine c_condF h rfl ?_
      first | refine cKt0 ?_ | refine cK0 ?_
      with_reducible repeat (first | refine xa0 ?_ | refine xb0 ?_ | refine xc0 ?_ | refine xd0 ?_ | refine xe0 (by decide) ?_ | refine xf0 ?_ | refine xg0 ?_ | refine xh0 ?_ | refine xi0 ?_)
      replace H : St w0.heap.size w0 [] w := H.sub (.cons _ (.refl _))
      repeat refine cS0 ?_
      refine cR0 ?_
      refine sM0 hF h rfl rfl (by decide) ?_
      clear h; intro a h
      refine i_ar64 hF h rfl rfl rfl rfl (by omega) (by omega) (by decide) ?_
      clear h; intro a h
      refine sA0 hF h rfl rfl (by decide) ?_
      clear h; intro a h
      refine cE0 ?_
      refine ⟨256 - (x.toNat + 1), by omega, x.toNat + 1, rfl, by omega, ?_, (h.sub (by repeat (first | exact trivial | refine ⟨rfl, ?_⟩))), H⟩
      intro k z hk hz
      by_cases e : k = x.toNat
      · subst e; rw [hi] at hz; cases hz; exact he
      · exact hno k z (by omega) hz
 · repeat refine cS0 ?_
   refine cR0 ?_
   refine sM0 hF h rfl rfl (by decide) ?_
   clear h; intro a h
   (first | (refine iC0 hF h rfl rfl rfl (i_lss_t (by omega)) (by decide) ?_) | (refine iC0 hF h rfl rfl rfl (i_lss_f (by omega)) (by decide) ?_))
   clear h; intro a h
   first | refine cEt0 ?_ | refine cE0 ?_
   repeat refine cS0 ?_
   refine c_condF h rfl ?_
   refine c_exit ?_
   with_reducible repeat (first | refine xa0 ?_ | refine xb0 ?_ | refine xc0 ?_ | refine xd0 ?_ | refine xe0 (by decide) ?_ | refine xf0 ?_ | refine xg0 ?_ | refine xh0 ?_ | refine xi0 ?_)
   repeat refine cS0 ?_
   refine cR0 ?_
   refine sA0 hF h rfl rfl (by decide) ?_
   clear h; intro a h
   refine sA0 hF h rfl rfl (by decide) ?_
   clear h; intro a h
   first | refine cEt0 ?_ | refine cE0 ?_
   refine c_ret ?_
   with_reducible repeat (first | refine xa0 ?_ | refine xb0 ?_ | refine xc0 ?_ | refine xd0 ?_ | refine xe0 (by decide) ?_ | refine xf0 ?_ | refine xg0 ?_ | refine xh0 ?_ | refine xi0 ?_)
   refine leave (fn := Tryz.f34) h Tryz.results34 (.tmp rfl (.tmp rfl (.nil))) ?_
   have hnm : named nm = none := named_none nm fun k x hk hx => hno k x (by omega) hx
   exact ⟨_, rfl, by simp [namedV, hnm, tupleOf], H.done⟩
theorem slice_one (s : List UInt8) (i : Nat) (x : UInt8) (h : s[i]? = some x) : (s.take (i + 1)).drop i = [x] := by
 rw [List.take_add_one, h, List.drop_append, List.drop_of_length_le (by simp; omega), List.length_take]
 have : i < s.length := (List.getElem?_eq_some_iff.1 h).1
 simp [Nat.min_eq_left (Nat.le_of_lt this)]
theorem rsplit_ret (s : List UInt8) (hs : s.length ≤ 100000) (w0 : World) : Rets Tryz.prog 33 [str s, .int .u8 32] w0 fun u w' => GivesRow 9 str (split s) w0 u w' := by
 refine enter Tryz.func33 rfl (Nat.le_of_ble_eq_true rfl) ?_
 intro a h; rw [Tryz.ntmps33] at h
 have hF := Fd.wide; have H := St.begin w0
 repeat refine cS0 ?_
 refine cR0 ?_
 refine sA0 hF h rfl rfl (by decide) ?_
 clear h; intro a h
 first | refine cEt0 ?_ | refine cE0 ?_
 repeat refine cS0 ?_
 refine cR0 ?_
 refine sA0 hF h rfl rfl (by decide) ?_
 clear h; intro a h
 first | refine cEt0 ?_ | refine cE0 ?_
 repeat refine cS0 ?_
 refine cR0 ?_
 refine sA0 hF h rfl rfl (by decide) ?_
 clear h; intro a h
 first | refine cEt0 ?_ | refine cE0 ?_
 repeat refine cS0 ?_
 refine cR0 ?_
 refine sA0 hF h rfl rfl (by decide) ?_
 clear h; intro a h
 first | refine cEt0 ?_ | refine cE0 ?_
 repeat refine cS0 ?_
 refine c_block ?_
 refine c_loopN (fun q a' w' => ∃ i ps part u R, q = s.length + 1 - i ∧ i ≤ s.length + 1 ∧ ps.length ≤ i ∧ part.length ≤ i ∧ (i ≤ s.length → split s = ps ++ splitGo part (s.drop i)) ∧ (s.length < i → split s = ps) ∧ RowIs 9 1 u ps.length (ps.map str) R ∧ Fr 37 [] [(7, int (i : Nat)), (6, str part), (5, u), (1, .int .u8 32), (0, str s)] a' ∧ St w0.heap.size w0 (R ++ []) w') (s.length + 1)
  ⟨0, [], [], _, _, rfl, by omega, Nat.le_refl _, Nat.le_refl _, fun _ => rfl, fun h => absurd h (by omega), RowIs.nil 9 1, (h.sub (by repeat (first | exact trivial | refine ⟨rfl, ?_⟩))), H⟩ ?_
 clear h H
 rintro q a w ⟨i, ps, part, u, R, rfl, hi, hps, hpart, hrel, hrel2, hr, h, H⟩
 by_cases hi2 : i ≤ s.length
 · have hre := hrel hi2
   repeat refine cS0 ?_
   refine cR0 ?_
   refine sM0 hF h rfl rfl (by decide) ?_
   clear h; intro a h
   refine sM0 hF h rfl rfl (by decide) ?_
   clear h; intro a h
   (first | (refine i_len hF h rfl rfl (by decide) ?_) | (refine i_lenS hF h rfl rfl (by decide) ?_))
   clear h; intro a h
   (first | (refine iC0 hF h rfl rfl rfl (i_leq_t (by omega)) (by decide) ?_) | (refine iC0 hF h rfl rfl rfl (i_leq_f (by omega)) (by decide) ?_))
   clear h; intro a h
   first | refine cEt0 ?_ | refine cE0 ?_
   repeat refine cS0 ?_
   refine c_condT h rfl ?_
   first | refine cKt0 ?_ | refine cK0 ?_
   repeat refine cS0 ?_
   refine c_block ?_
   have stop : ∀ (B : Bool), (i = s.length ∨ s[i]? = some 32) → split s = (ps ++ [part]) ++ (if i < s.length then splitGo [] (s.drop (i + 1)) else []) := by
    rintro _ (e | e)
    · subst e
      rw [hre, List.drop_length, splitGo, if_neg (by omega)]; simp
    · have hlt : i < s.length := (List.getElem?_eq_some_iff.1 e).1
      rw [hre, if_pos hlt, List.drop_eq_getElem_cons hlt, splitGo]
      have : s[i] = 32 := (List.getElem?_eq_some_iff.1 e).2
      rw [if_pos this]; simp
   by_cases hi3 : i < s.length
   · obtain ⟨x, hx⟩ : ∃ x, s[i]? = some x := ⟨_, List.getElem?_eq_getElem hi3⟩
     by_cases hxs : x = 32
     · subst hxs
       have hcmp : cmpI .neq ((32 : UInt8).toNat : Int) 32 = some false := i_neq_f rfl
       repeat refine cS0 ?_
       refine cR0 ?_
       refine sM0 hF h rfl rfl (by decide) ?_
       clear h; intro a h
       refine sM0 hF h rfl rfl (by decide) ?_
       clear h; intro a h
       (first | (refine i_len hF h rfl rfl (by decide) ?_) | (refine i_lenS hF h rfl rfl (by decide) ?_))
       clear h; intro a h
       (first | (refine iC0 hF h rfl rfl rfl (i_lss_t (by omega)) (by decide) ?_) | (refine iC0 hF h rfl rfl rfl (i_lss_f (by omega)) (by decide) ?_))
       clear h; intro a h
       refine sM0 hF h rfl rfl (by decide) ?_
       clear h; intro a h
       first | (refine sK0 hF h rfl (by decide) ?_; clear h; intro a h) | (refine sM0 hF h rfl rfl (by decide) ?_; clear h; intro a h)
       first | (refine sK0 hF h rfl (by decide) ?_; clear h; intro a h) | (refine sM0 hF h rfl rfl (by decide) ?_; clear h; intro a h)
       first | (refine sK0 hF h rfl (by decide) ?_; clear h; intro a h) | (refine i_indexStr hF h rfl rfl rfl hx (by decide) ?_; clear h; intro a h)
       first | (refine sK0 hF h rfl (by decide) ?_; clear h; intro a h) | (refine sM0 hF h rfl rfl (by decide) ?_; clear h; intro a h)
       first | (refine sK0 hF h rfl (by decide) ?_; clear h; intro a h) | (refine iC0 hF h rfl rfl rfl hcmp (by decide) ?_; clear h; intro a h)
       refine s_pick hF h rfl rfl rfl (by decide) ?_
       clear h; intro a h
       first | refine cEt0 ?_ | refine cE0 ?_
       repeat refine cS0 ?_
       refine c_condF h rfl ?_
       first | refine cKt0 ?_ | refine cK0 ?_
       repeat refine cS0 ?_
       refine cR0 ?_
       refine sM0 hF h rfl rfl (by decide) ?_
       clear h; intro a h
       refine sM0 hF h rfl rfl (by decide) ?_
       clear h; intro a h
       refine i_buildSlice hF h H rfl rfl (by decide) (by decide) rfl (by decide) ?_
       clear h H; intro a w b34 _ h H
       replace H := H.newIn
       refine i_append hF h hr H rfl rfl rfl (m := 1) (news := [str part]) rfl (cells_own H (by repeat (first | exact mh1 | apply mt1 | apply ma1))) (by simp [Value.oneCell']) (by omega) (by omega) (by decide) ?_
       clear h H; intro a w u' R' hr' H h
       refine sA0 hF h rfl rfl (by decide) ?_
       clear h; intro a h
       first | refine cEt0 ?_ | refine cE0 ?_
       repeat refine cS0 ?_
       refine cR0 ?_
       refine sA0 hF h rfl rfl (by decide) ?_
       clear h; intro a h
       refine cE0 ?_
       with_reducible repeat (first | refine xa0 ?_ | refine xb0 ?_ | refine xc0 ?_ | refine xd0 ?_ | refine xe0 (by decide) ?_ | refine xf0 ?_ | refine xg0 ?_ | refine xh0 ?_ | refine xi0 ?_)
       replace H := H.dropIn
       have hst := stop true (.inr hx)
       rw [if_pos hi3] at hst
       repeat refine cS0 ?_
       refine cR0 ?_
       refine sM0 hF h rfl rfl (by decide) ?_
       clear h; intro a h
       refine i_ar64 hF h rfl rfl rfl rfl (by omega) (by omega) (by decide) ?_
       clear h; intro a h
       refine sA0 hF h rfl rfl (by decide) ?_
       clear h; intro a h
       refine cE0 ?_
       exact ⟨s.length + 1 - (i + 1), by omega, i + 1, ps ++ [part], [], u', R', rfl, by omega, by simp; omega, by simp, fun _ => hst, fun h => absurd h (by omega), by simpa using hr', (h.sub (by repeat (first | exact trivial | refine ⟨rfl, ?_⟩))), H⟩
     · have hcmp : cmpI .neq (x.toNat : Int) 32 = some true := i_neq_t (by intro e; exact hxs (UInt8.toNat_inj.1 (by simpa using (Int.ofNat_inj.1 e))))
       repeat refine cS0 ?_
       refine cR0 ?_
       refine sM0 hF h rfl rfl (by decide) ?_
       clear h; intro a h
       refine sM0 hF h rfl rfl (by decide) ?_
       clear h; intro a h
       (first | (refine i_len hF h rfl rfl (by decide) ?_) | (refine i_lenS hF h rfl rfl (by decide) ?_))
       clear h; intro a h
       (first | (refine iC0 hF h rfl rfl rfl (i_lss_t (by omega)) (by decide) ?_) | (refine iC0 hF h rfl rfl rfl (i_lss_f (by omega)) (by decide) ?_))
       clear h; intro a h
       refine sM0 hF h rfl rfl (by decide) ?_
       clear h; intro a h
       first | (refine sK0 hF h rfl (by decide) ?_; clear h; intro a h) | (refine sM0 hF h rfl rfl (by decide) ?_; clear h; intro a h)
       first | (refine sK0 hF h rfl (by decide) ?_; clear h; intro a h) | (refine sM0 hF h rfl rfl (by decide) ?_; clear h; intro a h)
       first | (refine sK0 hF h rfl (by decide) ?_; clear h; intro a h) | (refine i_indexStr hF h rfl rfl rfl hx (by decide) ?_; clear h; intro a h)
       first | (refine sK0 hF h rfl (by decide) ?_; clear h; intro a h) | (refine sM0 hF h rfl rfl (by decide) ?_; clear h; intro a h)
       first | (refine sK0 hF h rfl (by decide) ?_; clear h; intro a h) | (refine iC0 hF h rfl rfl rfl hcmp (by decide) ?_; clear h; intro a h)
       refine s_pick hF h rfl rfl rfl (by decide) ?_
       clear h; intro a h
       first | refine cEt0 ?_ | refine cE0 ?_
       repeat refine cS0 ?_
       refine c_condT h rfl ?_
       have hlen1 : ∀ y : UInt8, [y].length = 1 := fun _ => rfl
       repeat refine cS0 ?_
       refine cR0 ?_
       refine sM0 hF h rfl rfl (by decide) ?_
       clear h; intro a h
       refine sM0 hF h rfl rfl (by decide) ?_
       clear h; intro a h
       refine sM0 hF h rfl rfl (by decide) ?_
       clear h; intro a h
       refine sM0 hF h rfl rfl (by decide) ?_
       clear h; intro a h
       refine i_ar64 hF h rfl rfl rfl rfl (by omega) (by omega) (by decide) ?_
       clear h; intro a h
       rw [show (i : Int) + 1 = ((i + 1 : Nat) : Int) by omega] at h
       refine i_sliceS (i := i) (j := i + 1) hF h rfl rfl ⟨_, rfl⟩ ⟨_, rfl⟩ (by omega) (by omega) (by decide) ?_
       clear h; intro a h; rw [slice_one s i x hx] at h
       refine i_addS hF h rfl rfl rfl (by first | omega | (simp only [List.length_cons, List.length_nil]; omega)) (by decide) ?_
       clear h; intro a h
       refine sA0 hF h rfl rfl (by decide) ?_
       clear h; intro a h
       first | refine cEt0 ?_ | refine cE0 ?_
       refine c_exit ?_
       with_reducible repeat (first | refine xa0 ?_ | refine xb0 ?_ | refine xc0 ?_ | refine xd0 ?_ | refine xe0 (by decide) ?_ | refine xf0 ?_ | refine xg0 ?_ | refine xh0 ?_ | refine xi0 ?_)
       have hst : split s = ps ++ splitGo (part ++ [x]) (s.drop (i + 1)) := by
        rw [hre, List.drop_eq_getElem_cons hi3, splitGo]
        have e : s[i] = x := (List.getElem?_eq_some_iff.1 hx).2
        rw [e, if_neg hxs]
       repeat refine cS0 ?_
       refine cR0 ?_
       refine sM0 hF h rfl rfl (by decide) ?_
       clear h; intro a h
       refine i_ar64 hF h rfl rfl rfl rfl (by omega) (by omega) (by decide) ?_
       clear h; intro a h
       refine sA0 hF h rfl rfl (by decide) ?_
       clear h; intro a h
       refine cE0 ?_
       exact ⟨s.length + 1 - (i + 1), by omega, i + 1, ps, part ++ [x], u, R, rfl, by omega, by omega, by simp; omega, fun _ => hst, fun h => absurd h (by omega), hr, (h.sub (by repeat (first | exact trivial | refine ⟨rfl, ?_⟩))), H⟩
   · have e : i = s.length := by omega
     repeat refine cS0 ?_
     refine cR0 ?_
     refine sM0 hF h rfl rfl (by decide) ?_
     clear h; intro a h
     refine sM0 hF h rfl rfl (by decide) ?_
     clear h; intro a h
     (first | (refine i_len hF h rfl rfl (by decide) ?_) | (refine i_lenS hF h rfl rfl (by decide) ?_))
     clear h; intro a h
     (first | (refine iC0 hF h rfl rfl rfl (i_lss_t (by omega)) (by decide) ?_) | (refine iC0 hF h rfl rfl rfl (i_lss_f (by omega)) (by decide) ?_))
     clear h; intro a h
     refine sM0 hF h rfl rfl (by decide) ?_
     clear h; intro a h
     first | (refine sK0 hF h rfl (by decide) ?_; clear h; intro a h) | (refine sM0 hF h rfl rfl (by decide) ?_; clear h; intro a h)
     first | (refine sK0 hF h rfl (by decide) ?_; clear h; intro a h) | (refine sM0 hF h rfl rfl (by decide) ?_; clear h; intro a h)
     first | (refine sK0 hF h rfl (by decide) ?_; clear h; intro a h) | (refine i_indexStr hF h rfl rfl rfl hx (by decide) ?_; clear h; intro a h)
     first | (refine sK0 hF h rfl (by decide) ?_; clear h; intro a h) | (refine sM0 hF h rfl rfl (by decide) ?_; clear h; intro a h)
     first | (refine sK0 hF h rfl (by decide) ?_; clear h; intro a h) | (refine iC0 hF h rfl rfl rfl hcmp (by decide) ?_; clear h; intro a h)
     refine s_pick hF h rfl rfl rfl (by decide) ?_
     clear h; intro a h
     first | refine cEt0 ?_ | refine cE0 ?_
     repeat refine cS0 ?_
     refine c_condF h rfl ?_
     first | refine cKt0 ?_ | refine cK0 ?_
     repeat refine cS0 ?_
     refine cR0 ?_
     refine sM0 hF h rfl rfl (by decide) ?_
     clear h; intro a h
     refine sM0 hF h rfl rfl (by decide) ?_
     clear h; intro a h
     refine i_buildSlice hF h H rfl rfl (by decide) (by decide) rfl (by decide) ?_
     clear h H; intro a w b34 _ h H
     replace H := H.newIn
     refine i_append hF h hr H rfl rfl rfl (m := 1) (news := [str part]) rfl (cells_own H (by repeat (first | exact mh1 | apply mt1 | apply ma1))) (by simp [Value.oneCell']) (by omega) (by omega) (by decide) ?_
     clear h H; intro a w u' R' hr' H h
     refine sA0 hF h rfl rfl (by decide) ?_
     clear h; intro a h
     first | refine cEt0 ?_ | refine cE0 ?_
     repeat refine cS0 ?_
     refine cR0 ?_
     refine sA0 hF h rfl rfl (by decide) ?_
     clear h; intro a h
     refine cE0 ?_
     with_reducible repeat (first | refine xa0 ?_ | refine xb0 ?_ | refine xc0 ?_ | refine xd0 ?_ | refine xe0 (by decide) ?_ | refine xf0 ?_ | refine xg0 ?_ | refine xh0 ?_ | refine xi0 ?_)
     replace H := H.dropIn
     have hst := stop true (.inl e)
     rw [if_neg hi3, List.append_nil] at hst
     repeat refine cS0 ?_
     refine cR0 ?_
     refine sM0 hF h rfl rfl (by decide) ?_
     clear h; intro a h
     refine i_ar64 hF h rfl rfl rfl rfl (by omega) (by omega) (by decide) ?_
     clear h; intro a h
     refine sA0 hF h rfl rfl (by decide) ?_
     clear h; intro a h
     refine cE0 ?_
     exact ⟨s.length + 1 - (i + 1), by omega, i + 1, ps ++ [part], [], u', R', rfl, by omega, by simp; omega, by simp, fun h => absurd h (by omega), fun _ => hst, by simpa using hr', (h.sub (by repeat (first | exact trivial | refine ⟨rfl, ?_⟩))), H⟩
 · repeat refine cS0 ?_
   refine cR0 ?_
   refine sM0 hF h rfl rfl (by decide) ?_
   clear h; intro a h
   refine sM0 hF h rfl rfl (by decide) ?_
   clear h; intro a h
   (first | (refine i_len hF h rfl rfl (by decide) ?_) | (refine i_lenS hF h rfl rfl (by decide) ?_))
   clear h; intro a h
   (first | (refine iC0 hF h rfl rfl rfl (i_leq_t (by omega)) (by decide) ?_) | (refine iC0 hF h rfl rfl rfl (i_leq_f (by omega)) (by decide) ?_))
   clear h; intro a h
   first | refine cEt0 ?_ | refine cE0 ?_
   repeat refine cS0 ?_
   refine c_condF h rfl ?_
   refine c_exit ?_
   with_reducible repeat (first | refine xa0 ?_ | refine xb0 ?_ | refine xc0 ?_ | refine xd0 ?_ | refine xe0 (by decide) ?_ | refine xf0 ?_ | refine xg0 ?_ | refine xh0 ?_ | refine xi0 ?_)
   repeat refine cS0 ?_
   refine cR0 ?_
   refine sM0 hF h rfl rfl (by decide) ?_
   clear h; intro a h
   refine sA0 hF h rfl rfl (by decide) ?_
   clear h; intro a h
   first | refine cEt0 ?_ | refine cE0 ?_
   refine c_ret ?_
   with_reducible repeat (first | refine xa0 ?_ | refine xb0 ?_ | refine xc0 ?_ | refine xd0 ?_ | refine xe0 (by decide) ?_ | refine xf0 ?_ | refine xg0 ?_ | refine xh0 ?_ | refine xi0 ?_)
   refine leave (fn := Tryz.f33) h Tryz.results33 (.tmp rfl (.nil)) ?_
   have := hrel2 (by omega)
   rw [← this] at hr
   exact ⟨_, rfl, GivesRow.of (L := []) hr rfl H⟩
end Go.Proofs.YtjlmpghcjgbfjaaGreatDoor.Cw
namespace Go.Proofs.YtjlmpghcjgbfjaaGreatDoor.Cw
open Go Go.RowKit Go.Proofs Ex Cd
set_option maxRecDepth 100000
theorem unhexs_odd : ∀ (s : List UInt8), s.length % 2 = 1 → unhexs s = none
 | [], h => by simp at h
 | [_], _ => rfl
 | x :: y :: r, h => by
  have ih := unhexs_odd r (by simp at h ⊢; omega)
  rw [unhexs]
  split
  · rw [ih]; rfl
  · rfl
theorem unhex_head (s : List UInt8) (h : s.take 2 = [48, 120]) : s = 48 :: 120 :: s.drop 2 := by
 have := List.take_append_drop 2 s
 rw [h] at this
 exact this.symm
theorem unhex_none (s : List UInt8) (h : s.take 2 ≠ [48, 120]) : unhex s = none := by
 unfold unhex
 split
 · exact absurd rfl h
 · rfl
theorem unhexs_length : ∀ (s l : List UInt8), unhexs s = some l → s.length = 2 * l.length := by
 intro s l h
 rw [← hexs_unhexs s l h, hexs_length]
theorem runhex_ret (s : List UInt8) (hs : s.length ≤ 100000) (w0 : World) : Rets Tryz.prog 35 [str s] w0 fun v w' => ∃ u, v = .tuple #[u, .bool (unhex s).isSome] ∧ GivesRow 5 byt ((unhex s).getD []) w0 u w' := by
 refine enter Tryz.func35 rfl (Nat.le_of_ble_eq_true rfl) ?_
 intro a h; rw [Tryz.ntmps35] at h
 have hF := Fd.wide; have H := St.begin w0
 repeat refine cS0 ?_
 refine cR0 ?_
 refine sA0 hF h rfl rfl (by decide) ?_
 clear h; intro a h
 refine sA0 hF h rfl rfl (by decide) ?_
 clear h; intro a h
 first | refine cEt0 ?_ | refine cE0 ?_
 have nope : unhex s = none → ∀ {w' : World}, St w0.heap.size w0 [] w' → ∃ u, tupleOf [Value.slice none 0 0, Value.bool false] = .tuple #[u, .bool (unhex s).isSome] ∧ GivesRow 5 byt ((unhex s).getD []) w0 u w' := fun hn w' H' => by
  rw [hn]
  exact ⟨_, rfl, GivesRow.of (R := []) (L := []) (RowIs.nil 5 1) rfl H'⟩
 by_cases h1 : s.length < 2
 · repeat refine cS0 ?_
   refine cR0 ?_
   refine sM0 hF h rfl rfl (by decide) ?_
   clear h; intro a h
   (first | (refine i_len hF h rfl rfl (by decide) ?_) | (refine i_lenS hF h rfl rfl (by decide) ?_))
   clear h; intro a h
   (first | (refine iC0 hF h rfl rfl rfl (i_lss_t (by omega)) (by decide) ?_) | (refine iC0 hF h rfl rfl rfl (i_lss_f (by omega)) (by decide) ?_))
   clear h; intro a h
   refine sM0 hF h rfl rfl (by decide) ?_
   clear h; intro a h
   first | (refine sK0 hF h rfl (by decide) ?_; clear h; intro a h) | (refine sM0 hF h rfl rfl (by decide) ?_; clear h; intro a h)
   first | (refine sK0 hF h rfl (by decide) ?_; clear h; intro a h) | (refine i_sliceS (l := s) (i := 0) (j := 2) hF h rfl rfl rfl ⟨_, rfl⟩ (by omega) (by omega) (by decide) ?_; clear h; intro a h)
   first | (refine sK0 hF h rfl (by decide) ?_; clear h; intro a h) | (refine i_neS hF h rfl rfl rfl hhead (by decide) ?_; clear h; intro a h)
   refine s_pick hF h rfl rfl rfl (by decide) ?_
   clear h; intro a h
   refine sM0 hF h rfl rfl (by decide) ?_
   clear h; intro a h
   first | (refine sK0 hF h rfl (by decide) ?_; clear h; intro a h) | (refine sM0 hF h rfl rfl (by decide) ?_; clear h; intro a h)
   first | (refine sK0 hF h rfl (by decide) ?_; clear h; intro a h) | ((first | (refine i_len hF h rfl rfl (by decide) ?_) | (refine i_lenS hF h rfl rfl (by decide) ?_)); clear h; intro a h)
   first | (refine sK0 hF h rfl (by decide) ?_; clear h; intro a h) | (refine i_rem hF h rfl rfl rfl (by omega) (by omega) (by decide) ?_; clear h; intro a h)
   first | (refine sK0 hF h rfl (by decide) ?_; clear h; intro a h) | ((first | (refine iC0 hF h rfl rfl rfl (i_eql_t (by omega)) (by decide) ?_) | (refine iC0 hF h rfl rfl rfl (i_eql_f (by omega)) (by decide) ?_)); clear h; intro a h)
   refine s_pick hF h rfl rfl rfl (by decide) ?_
   clear h; intro a h
   first | refine cEt0 ?_ | refine cE0 ?_
   repeat refine cS0 ?_
   refine c_condT h rfl ?_
   repeat refine cS0 ?_
   refine cR0 ?_
   refine sA0 hF h rfl rfl (by decide) ?_
   clear h; intro a h
   refine sA0 hF h rfl rfl (by decide) ?_
   clear h; intro a h
   first | refine cEt0 ?_ | refine cE0 ?_
   refine c_ret ?_
   with_reducible repeat (first | refine xa0 ?_ | refine xb0 ?_ | refine xc0 ?_ | refine xd0 ?_ | refine xe0 (by decide) ?_ | refine xf0 ?_ | refine xg0 ?_ | refine xh0 ?_ | refine xi0 ?_)
   refine leave (fn := Tryz.f35) h Tryz.results35 (.tmp rfl (.tmp rfl (.nil))) ?_
   refine ⟨_, rfl, nope (unhex_none s fun e => ?_) H⟩
   have := congrArg List.length e
   simp at this; omega
 by_cases h2 : ¬ s.take 2 = [48, 120]
 · have hhead : (!((s.take 2).drop 0 == [48, 120])) = true := by simpa using h2
   repeat refine cS0 ?_
   refine cR0 ?_
   refine sM0 hF h rfl rfl (by decide) ?_
   clear h; intro a h
   (first | (refine i_len hF h rfl rfl (by decide) ?_) | (refine i_lenS hF h rfl rfl (by decide) ?_))
   clear h; intro a h
   (first | (refine iC0 hF h rfl rfl rfl (i_lss_t (by omega)) (by decide) ?_) | (refine iC0 hF h rfl rfl rfl (i_lss_f (by omega)) (by decide) ?_))
   clear h; intro a h
   refine sM0 hF h rfl rfl (by decide) ?_
   clear h; intro a h
   first | (refine sK0 hF h rfl (by decide) ?_; clear h; intro a h) | (refine sM0 hF h rfl rfl (by decide) ?_; clear h; intro a h)
   first | (refine sK0 hF h rfl (by decide) ?_; clear h; intro a h) | (refine i_sliceS (l := s) (i := 0) (j := 2) hF h rfl rfl rfl ⟨_, rfl⟩ (by omega) (by omega) (by decide) ?_; clear h; intro a h)
   first | (refine sK0 hF h rfl (by decide) ?_; clear h; intro a h) | (refine i_neS hF h rfl rfl rfl hhead (by decide) ?_; clear h; intro a h)
   refine s_pick hF h rfl rfl rfl (by decide) ?_
   clear h; intro a h
   refine sM0 hF h rfl rfl (by decide) ?_
   clear h; intro a h
   first | (refine sK0 hF h rfl (by decide) ?_; clear h; intro a h) | (refine sM0 hF h rfl rfl (by decide) ?_; clear h; intro a h)
   first | (refine sK0 hF h rfl (by decide) ?_; clear h; intro a h) | ((first | (refine i_len hF h rfl rfl (by decide) ?_) | (refine i_lenS hF h rfl rfl (by decide) ?_)); clear h; intro a h)
   first | (refine sK0 hF h rfl (by decide) ?_; clear h; intro a h) | (refine i_rem hF h rfl rfl rfl (by omega) (by omega) (by decide) ?_; clear h; intro a h)
   first | (refine sK0 hF h rfl (by decide) ?_; clear h; intro a h) | ((first | (refine iC0 hF h rfl rfl rfl (i_eql_t (by omega)) (by decide) ?_) | (refine iC0 hF h rfl rfl rfl (i_eql_f (by omega)) (by decide) ?_)); clear h; intro a h)
   refine s_pick hF h rfl rfl rfl (by decide) ?_
   clear h; intro a h
   first | refine cEt0 ?_ | refine cE0 ?_
   repeat refine cS0 ?_
   refine c_condT h rfl ?_
   repeat refine cS0 ?_
   refine cR0 ?_
   refine sA0 hF h rfl rfl (by decide) ?_
   clear h; intro a h
   refine sA0 hF h rfl rfl (by decide) ?_
   clear h; intro a h
   first | refine cEt0 ?_ | refine cE0 ?_
   refine c_ret ?_
   with_reducible repeat (first | refine xa0 ?_ | refine xb0 ?_ | refine xc0 ?_ | refine xd0 ?_ | refine xe0 (by decide) ?_ | refine xf0 ?_ | refine xg0 ?_ | refine xh0 ?_ | refine xi0 ?_)
   refine leave (fn := Tryz.f35) h Tryz.results35 (.tmp rfl (.tmp rfl (.nil))) ?_
   exact ⟨_, rfl, nope (unhex_none s h2) H⟩
 have h2 := Decidable.not_not.1 h2
 have hhead : (!((s.take 2).drop 0 == [48, 120])) = false := by simp [h2]
 have hun : unhex s = unhexs (s.drop 2) := by
  rw [unhex_head s h2]; rfl
 by_cases h3 : s.length % 2 = 1
 · repeat refine cS0 ?_
   refine cR0 ?_
   refine sM0 hF h rfl rfl (by decide) ?_
   clear h; intro a h
   (first | (refine i_len hF h rfl rfl (by decide) ?_) | (refine i_lenS hF h rfl rfl (by decide) ?_))
   clear h; intro a h
   (first | (refine iC0 hF h rfl rfl rfl (i_lss_t (by omega)) (by decide) ?_) | (refine iC0 hF h rfl rfl rfl (i_lss_f (by omega)) (by decide) ?_))
   clear h; intro a h
   refine sM0 hF h rfl rfl (by decide) ?_
   clear h; intro a h
   first | (refine sK0 hF h rfl (by decide) ?_; clear h; intro a h) | (refine sM0 hF h rfl rfl (by decide) ?_; clear h; intro a h)
   first | (refine sK0 hF h rfl (by decide) ?_; clear h; intro a h) | (refine i_sliceS (l := s) (i := 0) (j := 2) hF h rfl rfl rfl ⟨_, rfl⟩ (by omega) (by omega) (by decide) ?_; clear h; intro a h)
   first | (refine sK0 hF h rfl (by decide) ?_; clear h; intro a h) | (refine i_neS hF h rfl rfl rfl hhead (by decide) ?_; clear h; intro a h)
   refine s_pick hF h rfl rfl rfl (by decide) ?_
   clear h; intro a h
   refine sM0 hF h rfl rfl (by decide) ?_
   clear h; intro a h
   first | (refine sK0 hF h rfl (by decide) ?_; clear h; intro a h) | (refine sM0 hF h rfl rfl (by decide) ?_; clear h; intro a h)
   first | (refine sK0 hF h rfl (by decide) ?_; clear h; intro a h) | ((first | (refine i_len hF h rfl rfl (by decide) ?_) | (refine i_lenS hF h rfl rfl (by decide) ?_)); clear h; intro a h)
   first | (refine sK0 hF h rfl (by decide) ?_; clear h; intro a h) | (refine i_rem hF h rfl rfl rfl (by omega) (by omega) (by decide) ?_; clear h; intro a h)
   first | (refine sK0 hF h rfl (by decide) ?_; clear h; intro a h) | ((first | (refine iC0 hF h rfl rfl rfl (i_eql_t (by omega)) (by decide) ?_) | (refine iC0 hF h rfl rfl rfl (i_eql_f (by omega)) (by decide) ?_)); clear h; intro a h)
   refine s_pick hF h rfl rfl rfl (by decide) ?_
   clear h; intro a h
   first | refine cEt0 ?_ | refine cE0 ?_
   repeat refine cS0 ?_
   refine c_condT h rfl ?_
   repeat refine cS0 ?_
   refine cR0 ?_
   refine sA0 hF h rfl rfl (by decide) ?_
   clear h; intro a h
   refine sA0 hF h rfl rfl (by decide) ?_
   clear h; intro a h
   first | refine cEt0 ?_ | refine cE0 ?_
   refine c_ret ?_
   with_reducible repeat (first | refine xa0 ?_ | refine xb0 ?_ | refine xc0 ?_ | refine xd0 ?_ | refine xe0 (by decide) ?_ | refine xf0 ?_ | refine xg0 ?_ | refine xh0 ?_ | refine xi0 ?_)
   refine leave (fn := Tryz.f35) h Tryz.results35 (.tmp rfl (.tmp rfl (.nil))) ?_
   exact ⟨_, rfl, nope (by rw [hun]; exact unhexs_odd _ (by simp; omega)) H⟩
 · repeat refine cS0 ?_
   refine cR0 ?_
   refine sM0 hF h rfl rfl (by decide) ?_
   clear h; intro a h
   (first | (refine i_len hF h rfl rfl (by decide) ?_) | (refine i_lenS hF h rfl rfl (by decide) ?_))
   clear h; intro a h
   (first | (refine iC0 hF h rfl rfl rfl (i_lss_t (by omega)) (by decide) ?_) | (refine iC0 hF h rfl rfl rfl (i_lss_f (by omega)) (by decide) ?_))
   clear h; intro a h
   refine sM0 hF h rfl rfl (by decide) ?_
   clear h; intro a h
   first | (refine sK0 hF h rfl (by decide) ?_; clear h; intro a h) | (refine sM0 hF h rfl rfl (by decide) ?_; clear h; intro a h)
   first | (refine sK0 hF h rfl (by decide) ?_; clear h; intro a h) | (refine i_sliceS (l := s) (i := 0) (j := 2) hF h rfl rfl rfl ⟨_, rfl⟩ (by omega) (by omega) (by decide) ?_; clear h; intro a h)
   first | (refine sK0 hF h rfl (by decide) ?_; clear h; intro a h) | (refine i_neS hF h rfl rfl rfl hhead (by decide) ?_; clear h; intro a h)
   refine s_pick hF h rfl rfl rfl (by decide) ?_
   clear h; intro a h
   refine sM0 hF h rfl rfl (by decide) ?_
   clear h; intro a h
   first | (refine sK0 hF h rfl (by decide) ?_; clear h; intro a h) | (refine sM0 hF h rfl rfl (by decide) ?_; clear h; intro a h)
   first | (refine sK0 hF h rfl (by decide) ?_; clear h; intro a h) | ((first | (refine i_len hF h rfl rfl (by decide) ?_) | (refine i_lenS hF h rfl rfl (by decide) ?_)); clear h; intro a h)
   first | (refine sK0 hF h rfl (by decide) ?_; clear h; intro a h) | (refine i_rem hF h rfl rfl rfl (by omega) (by omega) (by decide) ?_; clear h; intro a h)
   first | (refine sK0 hF h rfl (by decide) ?_; clear h; intro a h) | ((first | (refine iC0 hF h rfl rfl rfl (i_eql_t (by omega)) (by decide) ?_) | (refine iC0 hF h rfl rfl rfl (i_eql_f (by omega)) (by decide) ?_)); clear h; intro a h)
   refine s_pick hF h rfl rfl rfl (by decide) ?_
   clear h; intro a h
   first | refine cEt0 ?_ | refine cE0 ?_
   repeat refine cS0 ?_
   refine c_condF h rfl ?_
   first | refine cKt0 ?_ | refine cK0 ?_
   repeat refine cS0 ?_
   refine cR0 ?_
   refine sA0 hF h rfl rfl (by decide) ?_
   clear h; intro a h
   first | refine cEt0 ?_ | refine cE0 ?_
   repeat refine cS0 ?_
   refine cR0 ?_
   refine sA0 hF h rfl rfl (by decide) ?_
   clear h; intro a h
   first | refine cEt0 ?_ | refine cE0 ?_
   repeat refine cS0 ?_
   refine c_block ?_
   refine c_loopN (fun q a' w' => ∃ i acc u R, q = s.length - i ∧ i ≤ s.length ∧ i % 2 = 0 ∧ acc.length ≤ i ∧ unhexs (s.drop 2) = (unhexs (s.drop i)).map (acc ++ ·) ∧ RowIs 5 1 u acc.length (acc.map byt) R ∧ Fr 52 [] [(5, int (i : Nat)), (4, u), (0, str s)] a' ∧ St w0.heap.size w0 (R ++ []) w') (s.length - 2)
    ⟨2, [], _, _, rfl, by omega, rfl, by simp, by simp, RowIs.nil 5 1, (h.sub (by repeat (first | exact trivial | refine ⟨rfl, ?_⟩))), H⟩ ?_
   clear h H
   rintro q a w ⟨i, acc, u, R, rfl, hi, hi2, hacc, hrel, hr, h, H⟩
   by_cases hil : i < s.length
   · repeat refine cS0 ?_
     refine cR0 ?_
     refine sM0 hF h rfl rfl (by decide) ?_
     clear h; intro a h
     refine sM0 hF h rfl rfl (by decide) ?_
     clear h; intro a h
     (first | (refine i_len hF h rfl rfl (by decide) ?_) | (refine i_lenS hF h rfl rfl (by decide) ?_))
     clear h; intro a h
     (first | (refine iC0 hF h rfl rfl rfl (i_lss_t (by omega)) (by decide) ?_) | (refine iC0 hF h rfl rfl rfl (i_lss_f (by omega)) (by decide) ?_))
     clear h; intro a h
     first | refine cEt0 ?_ | refine cE0 ?_
     repeat refine cS0 ?_
     refine c_condT h rfl ?_
     first | refine cKt0 ?_ | refine cK0 ?_
     have hil2 : i + 1 < s.length := by omega
     obtain ⟨x, hx⟩ : ∃ x, s[i]? = some x := ⟨_, List.getElem?_eq_getElem hil⟩
     obtain ⟨y, hy⟩ : ∃ y, s[i + 1]? = some y := ⟨_, List.getElem?_eq_getElem hil2⟩
     have hdrop : s.drop i = x :: y :: s.drop (i + 2) := by
      rw [List.drop_eq_getElem_cons hil, List.drop_eq_getElem_cons hil2, (List.getElem?_eq_some_iff.1 hx).2, (List.getElem?_eq_some_iff.1 hy).2]
     rw [hdrop, unhexs] at hrel
     repeat refine cS0 ?_
     refine c_block ?_
     repeat refine cS0 ?_
     refine d_regionL [] (by kernel_rfl) H ?_
     clear H; intro w H
     apply dQ0 hF h 0 rfl rfl (by kernel_rfl) (by decide) NoP.np (fun _ => H.sub (by repeat (first | exact ln1 | exact ls1 | exact lr1 | apply lk1 | apply List.Sublist.cons | apply la1)))
     · intro w
       refine sM0 hF h rfl rfl (by decide) ?_
       intro a h
       exact ⟨rfl, h⟩
     clear h; intro a h
     apply dQ0 hF h 1 rfl rfl (by kernel_rfl) (by decide) NoP.np (fun _ => H.sub (by repeat (first | exact ln1 | exact ls1 | exact lr1 | apply lk1 | apply List.Sublist.cons | apply la1)))
     · intro w
       refine sM0 hF h rfl rfl (by decide) ?_
       intro a h
       exact ⟨rfl, h⟩
     clear h; intro a h
     apply dQ0 hF h 2 rfl rfl (by kernel_rfl) (by decide) NoP.np (fun _ => H.sub (by repeat (first | exact ln1 | exact ls1 | exact lr1 | apply lk1 | apply List.Sublist.cons | apply la1)))
     · intro w
       refine i_indexStr hF h rfl rfl rfl hx (by decide) ?_
       intro a h
       exact ⟨rfl, h⟩
     clear h; intro a h
     apply dQ0 hF h 4 rfl rfl (by kernel_rfl) (by decide) NoP.np (fun _ => H.sub (by repeat (first | exact ln1 | exact ls1 | exact lr1 | apply lk1 | apply List.Sublist.cons | apply la1)))
     · intro w
       refine sM0 hF h rfl rfl (by decide) ?_
       intro a h
       exact ⟨rfl, h⟩
     clear h; intro a h
     apply dQ0 hF h 5 rfl rfl (by kernel_rfl) (by decide) NoP.np (fun _ => H.sub (by repeat (first | exact ln1 | exact ls1 | exact lr1 | apply lk1 | apply List.Sublist.cons | apply la1)))
     · intro w
       refine sM0 hF h rfl rfl (by decide) ?_
       intro a h
       exact ⟨rfl, h⟩
     clear h; intro a h
     apply dQ0 hF h 6 rfl rfl (by kernel_rfl) (by decide) NoP.np (fun _ => H.sub (by repeat (first | exact ln1 | exact ls1 | exact lr1 | apply lk1 | apply List.Sublist.cons | apply la1)))
     · intro w
       refine i_ar64 hF h rfl rfl rfl rfl (by omega) (by omega) (by decide) ?_
       intro a h
       exact ⟨rfl, h⟩
     clear h; intro a h
     rw [show (i : Int) + 1 = ((i + 1 : Nat) : Int) by omega] at h
     apply dQ0 hF h 7 rfl rfl (by kernel_rfl) (by decide) NoP.np (fun _ => H.sub (by repeat (first | exact ln1 | exact ls1 | exact lr1 | apply lk1 | apply List.Sublist.cons | apply la1)))
     · intro w
       refine i_indexStr hF h rfl rfl rfl hy (by decide) ?_
       intro a h
       exact ⟨rfl, h⟩
     clear h; intro a h
     refine dE0 3 rfl (by kernel_rfl) ?_
     refine i_call hF h rfl (digit_ret x _) rfl (by decide) ?_
     clear h; rintro _ w ⟨rfl, hb⟩ a h; replace H := H.call hb; clear hb
     refine dN0 (H.sub (by repeat (first | exact ln1 | exact ls1 | exact lr1 | apply lk1 | apply List.Sublist.cons | apply la1))) ?_
     refine dE0 8 rfl (by kernel_rfl) ?_
     refine i_call hF h rfl (digit_ret y _) rfl (by decide) ?_
     clear h; rintro _ w ⟨rfl, hb⟩ a h; replace H := H.call hb; clear hb
     refine dN0 (H.sub (by repeat (first | exact ln1 | exact ls1 | exact lr1 | apply lk1 | apply List.Sublist.cons | apply la1))) ?_
     apply dQ0 hF h 9 rfl rfl (by kernel_rfl) (by decide) NoP.np (fun _ => H.sub (by repeat (first | exact ln1 | exact ls1 | exact lr1 | apply lk1 | apply List.Sublist.cons | apply la1)))
     · intro w
       refine sA0 hF h rfl rfl (by decide) ?_
       intro a h
       exact ⟨rfl, h⟩
     clear h; intro a h
     apply dQ0 hF h 10 rfl rfl (by kernel_rfl) (by decide) NoP.np (fun _ => H.sub (by repeat (first | exact ln1 | exact ls1 | exact lr1 | apply lk1 | apply List.Sublist.cons | apply la1)))
     · intro w
       refine sA0 hF h rfl rfl (by decide) ?_
       intro a h
       exact ⟨rfl, h⟩
     clear h; intro a h
     first | refine d_endThen (by kernel_rfl) ?_ | refine d_endQ (by kernel_rfl) ?_
     cases hdx : digit x with
     | none =>
      rw [show digitI x = -1 by unfold digitI; rw [hdx]] at h
      rw [hdx] at hrel
      repeat refine cS0 ?_
      refine cR0 ?_
      refine sM0 hF h rfl rfl (by decide) ?_
      clear h; intro a h
      (first | (refine iC0 hF h rfl rfl rfl (i_lss_t (by omega)) (by decide) ?_) | (refine iC0 hF h rfl rfl rfl (i_lss_f (by omega)) (by decide) ?_))
      clear h; intro a h
      refine sM0 hF h rfl rfl (by decide) ?_
      clear h; intro a h
      first | (refine sK0 hF h rfl (by decide) ?_; clear h; intro a h) | (refine sM0 hF h rfl rfl (by decide) ?_; clear h; intro a h)
      first | (refine sK0 hF h rfl (by decide) ?_; clear h; intro a h) | ((first | (refine iC0 hF h rfl rfl rfl (i_lss_t (by omega)) (by decide) ?_) | (refine iC0 hF h rfl rfl rfl (i_lss_f (by omega)) (by decide) ?_)); clear h; intro a h)
      refine s_pick hF h rfl rfl rfl (by decide) ?_
      clear h; intro a h
      first | refine cEt0 ?_ | refine cE0 ?_
      repeat refine cS0 ?_
      refine c_condT h rfl ?_
      repeat refine cS0 ?_
      refine cR0 ?_
      refine sA0 hF h rfl rfl (by decide) ?_
      clear h; intro a h
      refine sA0 hF h rfl rfl (by decide) ?_
      clear h; intro a h
      first | refine cEt0 ?_ | refine cE0 ?_
      refine c_ret ?_
      with_reducible repeat (first | refine xa0 ?_ | refine xb0 ?_ | refine xc0 ?_ | refine xd0 ?_ | refine xe0 (by decide) ?_ | refine xf0 ?_ | refine xg0 ?_ | refine xh0 ?_ | refine xi0 ?_)
      refine leave (fn := Tryz.f35) h Tryz.results35 (.tmp rfl (.tmp rfl (.nil))) ?_
      exact ⟨_, rfl, nope (by rw [hun, hrel]; rfl) (H.sub (List.nil_sublist _))⟩
     | some p =>
      have hp := (digit_hexd x p hdx).1
      rw [show digitI x = p by unfold digitI; rw [hdx]] at h
      rw [hdx] at hrel
      cases hdy : digit y with
      | none =>
       rw [show digitI y = -1 by unfold digitI; rw [hdy]] at h
       rw [hdy] at hrel
       repeat refine cS0 ?_
       refine cR0 ?_
       refine sM0 hF h rfl rfl (by decide) ?_
       clear h; intro a h
       (first | (refine iC0 hF h rfl rfl rfl (i_lss_t (by omega)) (by decide) ?_) | (refine iC0 hF h rfl rfl rfl (i_lss_f (by omega)) (by decide) ?_))
       clear h; intro a h
       refine sM0 hF h rfl rfl (by decide) ?_
       clear h; intro a h
       first | (refine sK0 hF h rfl (by decide) ?_; clear h; intro a h) | (refine sM0 hF h rfl rfl (by decide) ?_; clear h; intro a h)
       first | (refine sK0 hF h rfl (by decide) ?_; clear h; intro a h) | ((first | (refine iC0 hF h rfl rfl rfl (i_lss_t (by omega)) (by decide) ?_) | (refine iC0 hF h rfl rfl rfl (i_lss_f (by omega)) (by decide) ?_)); clear h; intro a h)
       refine s_pick hF h rfl rfl rfl (by decide) ?_
       clear h; intro a h
       first | refine cEt0 ?_ | refine cE0 ?_
       repeat refine cS0 ?_
       refine c_condT h rfl ?_
       repeat refine cS0 ?_
       refine cR0 ?_
       refine sA0 hF h rfl rfl (by decide) ?_
       clear h; intro a h
       refine sA0 hF h rfl rfl (by decide) ?_
       clear h; intro a h
       first | refine cEt0 ?_ | refine cE0 ?_
       refine c_ret ?_
       with_reducible repeat (first | refine xa0 ?_ | refine xb0 ?_ | refine xc0 ?_ | refine xd0 ?_ | refine xe0 (by decide) ?_ | refine xf0 ?_ | refine xg0 ?_ | refine xh0 ?_ | refine xi0 ?_)
       refine leave (fn := Tryz.f35) h Tryz.results35 (.tmp rfl (.tmp rfl (.nil))) ?_
       exact ⟨_, rfl, nope (by rw [hun, hrel]; rfl) (H.sub (List.nil_sublist _))⟩
      | some q' =>
       have hq := (digit_hexd y q' hdy).1
       rw [show digitI y = q' by unfold digitI; rw [hdy]] at h
       rw [hdy] at hrel
       have hbyte : (Value.int .u8 (16 * (p : Int) + (q' : Int))) = byt (UInt8.ofNat (16 * p + q')) := by
        have e : (UInt8.ofNat (16 * p + q')).toNat = 16 * p + q' := by simp; omega
        rw [byt, e]; rfl
       repeat refine cS0 ?_
       refine cR0 ?_
       refine sM0 hF h rfl rfl (by decide) ?_
       clear h; intro a h
       (first | (refine iC0 hF h rfl rfl rfl (i_lss_t (by omega)) (by decide) ?_) | (refine iC0 hF h rfl rfl rfl (i_lss_f (by omega)) (by decide) ?_))
       clear h; intro a h
       refine sM0 hF h rfl rfl (by decide) ?_
       clear h; intro a h
       first | (refine sK0 hF h rfl (by decide) ?_; clear h; intro a h) | (refine sM0 hF h rfl rfl (by decide) ?_; clear h; intro a h)
       first | (refine sK0 hF h rfl (by decide) ?_; clear h; intro a h) | ((first | (refine iC0 hF h rfl rfl rfl (i_lss_t (by omega)) (by decide) ?_) | (refine iC0 hF h rfl rfl rfl (i_lss_f (by omega)) (by decide) ?_)); clear h; intro a h)
       refine s_pick hF h rfl rfl rfl (by decide) ?_
       clear h; intro a h
       first | refine cEt0 ?_ | refine cE0 ?_
       repeat refine cS0 ?_
       refine c_condF h rfl ?_
       first | refine cKt0 ?_ | refine cK0 ?_
       repeat refine cS0 ?_
       refine cR0 ?_
       refine sM0 hF h rfl rfl (by decide) ?_
       clear h; intro a h
       refine sM0 hF h rfl rfl (by decide) ?_
       clear h; intro a h
       refine i_ar64 hF h rfl rfl rfl rfl (by omega) (by omega) (by decide) ?_
       clear h; intro a h
       refine sM0 hF h rfl rfl (by decide) ?_
       clear h; intro a h
       refine i_ar64 hF h rfl rfl rfl rfl (by omega) (by omega) (by decide) ?_
       clear h; intro a h
       refine i_conv hF h rfl rfl (wrapTo _ _ (by simp only [IntKind.min, IntKind.signed, IntKind.bits, Bool.false_eq_true, if_false]; omega) (by simp only [IntKind.max, IntKind.signed, IntKind.bits, Bool.false_eq_true, if_false]; omega)) (by decide) ?_
       clear h; intro a h
       rw [hbyte] at h
       refine i_buildSlice hF h H rfl rfl (by decide) (by decide) rfl (by decide) ?_
       clear h H; intro a w b49 _ h H
       replace H := H.newIn
       refine i_append hF h hr H rfl rfl rfl (m := 1) (news := [byt (UInt8.ofNat (16 * p + q'))]) rfl (cells_own H (by repeat (first | exact mh1 | apply mt1 | apply ma1))) (by simp [Value.oneCell']) (by omega) (by omega) (by decide) ?_
       clear h H; intro a w u' R' hr' H h
       refine sA0 hF h rfl rfl (by decide) ?_
       clear h; intro a h
       refine cE0 ?_
       with_reducible repeat (first | refine xa0 ?_ | refine xb0 ?_ | refine xc0 ?_ | refine xd0 ?_ | refine xe0 (by decide) ?_ | refine xf0 ?_ | refine xg0 ?_ | refine xh0 ?_ | refine xi0 ?_)
       replace H := H.dropIn
       repeat refine cS0 ?_
       refine cR0 ?_
       refine sM0 hF h rfl rfl (by decide) ?_
       clear h; intro a h
       refine i_ar64 hF h rfl rfl rfl rfl (by omega) (by omega) (by decide) ?_
       clear h; intro a h
       refine sA0 hF h rfl rfl (by decide) ?_
       clear h; intro a h
       refine cE0 ?_
       refine ⟨s.length - (i + 2), by omega, i + 2, acc ++ [UInt8.ofNat (16 * p + q')], u', R', rfl, by omega, by omega, by simp; omega, ?_, by simpa using hr', (h.sub (by repeat (first | exact trivial | refine ⟨rfl, ?_⟩))), H⟩
       rw [hrel]
       dsimp only
       rw [Option.map_map]
       congr 1
       funext l
       simp
   · repeat refine cS0 ?_
     refine cR0 ?_
     refine sM0 hF h rfl rfl (by decide) ?_
     clear h; intro a h
     refine sM0 hF h rfl rfl (by decide) ?_
     clear h; intro a h
     (first | (refine i_len hF h rfl rfl (by decide) ?_) | (refine i_lenS hF h rfl rfl (by decide) ?_))
     clear h; intro a h
     (first | (refine iC0 hF h rfl rfl rfl (i_lss_t (by omega)) (by decide) ?_) | (refine iC0 hF h rfl rfl rfl (i_lss_f (by omega)) (by decide) ?_))
     clear h; intro a h
     first | refine cEt0 ?_ | refine cE0 ?_
     repeat refine cS0 ?_
     refine c_condF h rfl ?_
     refine c_exit ?_
     with_reducible repeat (first | refine xa0 ?_ | refine xb0 ?_ | refine xc0 ?_ | refine xd0 ?_ | refine xe0 (by decide) ?_ | refine xf0 ?_ | refine xg0 ?_ | refine xh0 ?_ | refine xi0 ?_)
     have e : i = s.length := by omega
     rw [e, List.drop_length, unhexs] at hrel
     have hun2 : unhex s = some acc := by rw [hun, hrel]; simp
     repeat refine cS0 ?_
     refine cR0 ?_
     refine sM0 hF h rfl rfl (by decide) ?_
     clear h; intro a h
     refine sA0 hF h rfl rfl (by decide) ?_
     clear h; intro a h
     refine sA0 hF h rfl rfl (by decide) ?_
     clear h; intro a h
     first | refine cEt0 ?_ | refine cE0 ?_
     refine c_ret ?_
     with_reducible repeat (first | refine xa0 ?_ | refine xb0 ?_ | refine xc0 ?_ | refine xd0 ?_ | refine xe0 (by decide) ?_ | refine xf0 ?_ | refine xg0 ?_ | refine xh0 ?_ | refine xi0 ?_)
     refine leave (fn := Tryz.f35) h Tryz.results35 (.tmp rfl (.tmp rfl (.nil))) ?_
     rw [hun2]
     exact ⟨_, rfl, u, rfl, GivesRow.of (L := []) hr rfl H⟩
end Go.Proofs.YtjlmpghcjgbfjaaGreatDoor.Cw
namespace Go.Proofs.YtjlmpghcjgbfjaaGreatDoor.Cw
open Go Go.RowKit Go.Proofs Ex Cd
set_option maxRecDepth 100000
theorem isD_digit (x : UInt8) : isD x = (digit x).isSome := by
 have := upto (fun x => decide (isD (UInt8.ofNat x) = (digit (UInt8.ofNat x)).isSome)) 256 (by decide +kernel) x.toNat x.toNat_lt
 have := of_decide_eq_true this
 simpa using this
theorem unhexs_all : ∀ s : List UInt8, (unhexs s).isSome = (s.length % 2 == 0 && s.all isD)
 | [] => rfl
 | [x] => by simp [unhexs]
 | x :: y :: r => by
  have ih := unhexs_all r
  have e : (x :: y :: r).length % 2 = r.length % 2 := by simp; omega
  rw [unhexs, e]
  simp only [List.all_cons, isD_digit]
  cases hx : digit x with
  | none => simp
  | some a =>
   cases hy : digit y with
   | none => simp
   | some b => simpa using ih
theorem prefix_head (x : List UInt8) : Lib.hasPrefix x [48, 120] = (x.take 2 == [48, 120]) := by
 unfold Lib.hasPrefix
 cases x with
 | nil => rfl
 | cons a r => cases r with
  | nil => simp [List.isPrefixOf]
  | cons b r =>
   simp only [List.isPrefixOf, List.take_succ_cons, List.take_zero]
   by_cases ha : a = 48
   · by_cases hb : b = 120
     · subst ha; subst hb; rfl
     · subst ha
       have h1 : ((120 : UInt8) == b) = false := beq_eq_false_iff_ne.2 fun e => hb e.symm
       have h2 : (([48, b] : List UInt8) == [48, 120]) = false := beq_eq_false_iff_ne.2 fun e => hb (by simpa using e)
       simp [h1, h2]
   · have h1 : ((48 : UInt8) == a) = false := beq_eq_false_iff_ne.2 fun e => ha e.symm
     have h2 : (([a, b] : List UInt8) == [48, 120]) = false := beq_eq_false_iff_ne.2 fun e => ha (by simp at e; exact e.1)
     simp [h1, h2]
theorem bytesOf_all (many : Nat) (x : List UInt8) : (bytesOf many x).isSome = (Lib.hasPrefix x [48, 120] && (x.drop 2).length == 2 * many && (x.drop 2).all isD) := by
 rw [prefix_head]
 by_cases h : x.take 2 = [48, 120]
 · have hx := unhex_head x h
   have hu : unhex x = unhexs (x.drop 2) := by rw [hx]; rfl
   have ha := unhexs_all (x.drop 2)
   unfold bytesOf
   rw [hu, h]
   cases hs : unhexs (x.drop 2) with
   | none =>
    rw [hs] at ha
    simp only [Option.isSome_none, Bool.false_eq, Bool.and_eq_false_iff, beq_eq_false_iff_ne] at ha ⊢
    rcases ha with ha | ha
    · exact .inl (.inr fun e => ha (by omega))
    · exact .inr ha
   | some bs =>
    rw [hs] at ha
    have hl := unhexs_length _ _ hs
    simp only [Option.isSome_some, Bool.true_eq, Bool.and_eq_true, beq_iff_eq] at ha
    rw [ha.2, hl]
    dsimp only
    by_cases hb : bs.length = many
    · rw [if_pos hb, hb]; simp
    · rw [if_neg hb]
      have : ¬ (2 * bs.length = 2 * many) := by omega
      simp [this]
 · have hu := unhex_none x h
   unfold bytesOf
   rw [hu]
   simp [h]
theorem take_bad {n0 : Nat} {w0 : World} {b : Nat} {v : Value} {X Z : List (Nat × Obj)} {w1 : World} (hZ : Z.Sublist X) (H : St n0 w0 ([(b, .cells [v].toArray 70 (0, 0))] ++ X) w1) (hE : ∀ w, Reads n0 w0 Z w → ES str w v []) :
 RetsP Tryz.prog 32 [ptr b 0] w1 (fun _ _ => False) (fun c w' => c = gave 200 ∧ St n0 w0 X w') := by
 have hlen : ([] : List (List UInt8)).length = 0 := rfl
 refine enter Tryz.func32 rfl (Nat.le_of_ble_eq_true rfl) ?_
 intro a h; rw [Tryz.ntmps32] at h
 have hF := Fd.wide
 repeat refine cS0 ?_
 refine cR0 ?_
 refine sA0 hF h rfl rfl (by decide) ?_
 clear h; intro a h
 first | refine cEt0 ?_ | refine cE0 ?_
 repeat refine cS0 ?_
 refine cR0 ?_
 refine sM0 hF h rfl rfl (by decide) ?_
 clear h; intro a h
 refine i_nilCheck hF h rfl rfl (by decide) ?_
 clear h; intro a h
 refine iFa0 hF h rfl rfl rfl (by decide) ?_
 clear h; intro a h; try simp only [Nat.reduceAdd] at h
 refine iL0 hF h H rfl rfl (by repeat (first | exact mh1 | apply mt1 | apply ma1)) (by exact rfl) (by decide) ?_
 clear h; intro a h
 refine i_lenB hF h rfl rfl (hE _ (rd hZ H)) (by decide) ?_
 clear h; intro a h
 (first | (refine iC0 hF h rfl rfl rfl (i_gtr_t (by omega)) (by decide) ?_) | (refine iC0 hF h rfl rfl rfl (i_gtr_f (by omega)) (by decide) ?_))
 clear h; intro a h
 refine i_callP hF h rfl (must_f _ _) rfl (by decide) ?_ (fun _ _ hf => hf.elim)
 rintro c w ⟨rfl, hb⟩
 with_reducible repeat (first | refine xa0 ?_ | refine xb0 ?_ | refine xc0 ?_ | refine xd0 ?_ | refine xe0 (by decide) ?_ | refine xf0 ?_ | refine xg0 ?_ | refine xh0 ?_ | refine xi0 ?_)
 exact leaveP h (.inr ⟨_, rfl, rfl, (St.call (L := [(b, _)] ++ X) H hb).sub (List.sublist_append_right _ _)⟩)
theorem bytes_bad {n0 : Nat} {w0 : World} {b : Nat} {v : Value} {x : List UInt8} {r : List (List UInt8)} {X Z : List (Nat × Obj)} {w1 : World} {many : Nat} (hm : many ≤ 32) (hx : x.length ≤ 100000) (hno : bytesOf many x = none)
 (hZ : Z.Sublist X) (H : St n0 w0 ([(b, .cells [v].toArray 70 (0, 0))] ++ X) w1) (hE : ∀ w, Reads n0 w0 Z w → ES str w v (x :: r)) :
 RetsP Tryz.prog 31 [ptr b 0, int many] w1 (fun _ _ => False) (fun c w' => c = gave 200 ∧ St n0 w0 X w') := by
 have hall := bytesOf_all many x
 rw [hno] at hall
 have hdl : (x.drop 2).length ≤ x.length := by simp
 refine enter Tryz.func31 rfl (Nat.le_of_ble_eq_true rfl) ?_
 intro a h; rw [Tryz.ntmps31] at h
 have hF := Fd.wide
 repeat refine cS0 ?_
 refine cR0 ?_
 refine sA0 hF h rfl rfl (by decide) ?_
 clear h; intro a h
 first | refine cEt0 ?_ | refine cE0 ?_
 repeat refine cS0 ?_
 refine cR0 ?_
 refine sM0 hF h rfl rfl (by decide) ?_
 clear h; intro a h
 refine i_nilCheck hF h rfl rfl (by decide) ?_
 clear h; intro a h
 refine iFa0 hF h rfl rfl rfl (by decide) ?_
 clear h; intro a h; try simp only [Nat.reduceAdd] at h
 refine i_call hF h rfl (take_ret hZ H hE) rfl (by decide) ?_
 clear h H; rintro _ w ⟨rfl, v', hE2, H⟩ a h
 refine i_call hF h rfl (cut_ret x _) rfl (by decide) ?_
 clear h; rintro _ w ⟨rfl, hb⟩ a h; replace H := St.call (L := [(b, _)] ++ X) H hb; clear hb
 refine sM0 hF h rfl rfl (by decide) ?_
 clear h; intro a h
 refine iX0 hF h rfl rfl rfl (by decide) ?_
 clear h; intro a h
 refine iX0 hF h rfl rfl rfl (by decide) ?_
 clear h; intro a h
 refine sA0 hF h rfl rfl (by decide) ?_
 clear h; intro a h
 refine sA0 hF h rfl rfl (by decide) ?_
 clear h; intro a h
 first | refine cEt0 ?_ | refine cE0 ?_
 cases hp : Lib.hasPrefix x [48, 120] with
 | false =>
  simp only [hp] at h
  repeat refine cS0 ?_
  refine cR0 ?_
  refine sM0 hF h rfl rfl (by decide) ?_
  clear h; intro a h
  refine sM0 hF h rfl rfl (by decide) ?_
  clear h; intro a h
  first | (refine sK0 hF h rfl (by decide) ?_; clear h; intro a h) | (refine sM0 hF h rfl rfl (by decide) ?_; clear h; intro a h)
  first | (refine sK0 hF h rfl (by decide) ?_; clear h; intro a h) | ((first | (refine i_len hF h rfl rfl (by decide) ?_) | (refine i_lenS hF h rfl rfl (by decide) ?_)); clear h; intro a h)
  first | (refine sK0 hF h rfl (by decide) ?_; clear h; intro a h) | (refine sM0 hF h rfl rfl (by decide) ?_; clear h; intro a h)
  first | (refine sK0 hF h rfl (by decide) ?_; clear h; intro a h) | (refine i_ar64 hF h rfl rfl rfl rfl (by omega) (by omega) (by decide) ?_; clear h; intro a h)
  first | (refine sK0 hF h rfl (by decide) ?_; clear h; intro a h) | ((first | (refine iC0 hF h rfl rfl rfl (i_eql_t (by omega)) (by decide) ?_) | (refine iC0 hF h rfl rfl rfl (i_eql_f (by omega)) (by decide) ?_)); clear h; intro a h)
  refine s_pick hF h rfl rfl rfl (by decide) ?_
  clear h; intro a h
  refine sM0 hF h rfl rfl (by decide) ?_
  clear h; intro a h
  first | (refine sK0 hF h rfl (by decide) ?_; clear h; intro a h) | (refine sM0 hF h rfl rfl (by decide) ?_; clear h; intro a h)
  first | (refine sK0 hF h rfl (by decide) ?_; clear h; intro a h) | (refine i_call hF h rfl (trim_ret (x.drop 2) (by omega) _) rfl (by decide) ?_; clear h; rintro _ w ⟨⟨t, rfl, ht⟩, hb⟩ a h; replace H := St.call (L := [(b, _)] ++ X) H hb; clear hb)
  first | (refine sK0 hF h rfl (by decide) ?_; clear h; intro a h) | (refine i_eqS hF h rfl rfl rfl rfl (by decide) ?_; clear h; intro a h)
  refine s_pick hF h rfl rfl rfl (by decide) ?_
  clear h; intro a h
  refine i_callP hF h rfl (must_f _ _) rfl (by decide) ?_ (fun _ _ hf => hf.elim)
  rintro c w ⟨rfl, hb⟩; replace H := St.call (L := [(b, _)] ++ X) H hb
  with_reducible repeat (first | refine xa0 ?_ | refine xb0 ?_ | refine xc0 ?_ | refine xd0 ?_ | refine xe0 (by decide) ?_ | refine xf0 ?_ | refine xg0 ?_ | refine xh0 ?_ | refine xi0 ?_)
  exact leaveP h (.inr ⟨_, rfl, rfl, H.sub (List.sublist_append_right _ _)⟩)
 | true =>
  have htp : Lib.trimPrefix x [48, 120] = x.drop 2 := by unfold Lib.trimPrefix; rw [hp]; rfl
  simp only [hp, htp] at h
  rw [hp] at hall
  by_cases hl : (x.drop 2).length = 2 * many
  · rw [hl] at hall
    have hd : (x.drop 2).all isD = false := by simpa using hall
    repeat refine cS0 ?_
    refine cR0 ?_
    refine sM0 hF h rfl rfl (by decide) ?_
    clear h; intro a h
    refine sM0 hF h rfl rfl (by decide) ?_
    clear h; intro a h
    first | (refine sK0 hF h rfl (by decide) ?_; clear h; intro a h) | (refine sM0 hF h rfl rfl (by decide) ?_; clear h; intro a h)
    first | (refine sK0 hF h rfl (by decide) ?_; clear h; intro a h) | ((first | (refine i_len hF h rfl rfl (by decide) ?_) | (refine i_lenS hF h rfl rfl (by decide) ?_)); clear h; intro a h)
    first | (refine sK0 hF h rfl (by decide) ?_; clear h; intro a h) | (refine sM0 hF h rfl rfl (by decide) ?_; clear h; intro a h)
    first | (refine sK0 hF h rfl (by decide) ?_; clear h; intro a h) | (refine i_ar64 hF h rfl rfl rfl rfl (by omega) (by omega) (by decide) ?_; clear h; intro a h)
    first | (refine sK0 hF h rfl (by decide) ?_; clear h; intro a h) | ((first | (refine iC0 hF h rfl rfl rfl (i_eql_t (by omega)) (by decide) ?_) | (refine iC0 hF h rfl rfl rfl (i_eql_f (by omega)) (by decide) ?_)); clear h; intro a h)
    refine s_pick hF h rfl rfl rfl (by decide) ?_
    clear h; intro a h
    refine sM0 hF h rfl rfl (by decide) ?_
    clear h; intro a h
    first | (refine sK0 hF h rfl (by decide) ?_; clear h; intro a h) | (refine sM0 hF h rfl rfl (by decide) ?_; clear h; intro a h)
    first | (refine sK0 hF h rfl (by decide) ?_; clear h; intro a h) | (refine i_call hF h rfl (trim_ret (x.drop 2) (by omega) _) rfl (by decide) ?_; clear h; rintro _ w ⟨⟨t, rfl, ht⟩, hb⟩ a h; replace H := St.call (L := [(b, _)] ++ X) H hb; clear hb)
    first | (refine sK0 hF h rfl (by decide) ?_; clear h; intro a h) | (refine i_eqS hF h rfl rfl rfl (show (t == []) = false from beq_eq_false_iff_ne.2 fun e => by rw [ht.1 e] at hd; cases hd) (by decide) ?_; clear h; intro a h)
    refine s_pick hF h rfl rfl rfl (by decide) ?_
    clear h; intro a h
    refine i_callP hF h rfl (must_f _ _) rfl (by decide) ?_ (fun _ _ hf => hf.elim)
    rintro c w ⟨rfl, hb⟩; replace H := St.call (L := [(b, _)] ++ X) H hb
    with_reducible repeat (first | refine xa0 ?_ | refine xb0 ?_ | refine xc0 ?_ | refine xd0 ?_ | refine xe0 (by decide) ?_ | refine xf0 ?_ | refine xg0 ?_ | refine xh0 ?_ | refine xi0 ?_)
    exact leaveP h (.inr ⟨_, rfl, rfl, H.sub (List.sublist_append_right _ _)⟩)
  · repeat refine cS0 ?_
    refine cR0 ?_
    refine sM0 hF h rfl rfl (by decide) ?_
    clear h; intro a h
    refine sM0 hF h rfl rfl (by decide) ?_
    clear h; intro a h
    first | (refine sK0 hF h rfl (by decide) ?_; clear h; intro a h) | (refine sM0 hF h rfl rfl (by decide) ?_; clear h; intro a h)
    first | (refine sK0 hF h rfl (by decide) ?_; clear h; intro a h) | ((first | (refine i_len hF h rfl rfl (by decide) ?_) | (refine i_lenS hF h rfl rfl (by decide) ?_)); clear h; intro a h)
    first | (refine sK0 hF h rfl (by decide) ?_; clear h; intro a h) | (refine sM0 hF h rfl rfl (by decide) ?_; clear h; intro a h)
    first | (refine sK0 hF h rfl (by decide) ?_; clear h; intro a h) | (refine i_ar64 hF h rfl rfl rfl rfl (by omega) (by omega) (by decide) ?_; clear h; intro a h)
    first | (refine sK0 hF h rfl (by decide) ?_; clear h; intro a h) | ((first | (refine iC0 hF h rfl rfl rfl (i_eql_t (by omega)) (by decide) ?_) | (refine iC0 hF h rfl rfl rfl (i_eql_f (by omega)) (by decide) ?_)); clear h; intro a h)
    refine s_pick hF h rfl rfl rfl (by decide) ?_
    clear h; intro a h
    refine sM0 hF h rfl rfl (by decide) ?_
    clear h; intro a h
    first | (refine sK0 hF h rfl (by decide) ?_; clear h; intro a h) | (refine sM0 hF h rfl rfl (by decide) ?_; clear h; intro a h)
    first | (refine sK0 hF h rfl (by decide) ?_; clear h; intro a h) | (refine i_call hF h rfl (trim_ret (x.drop 2) (by omega) _) rfl (by decide) ?_; clear h; rintro _ w ⟨⟨t, rfl, ht⟩, hb⟩ a h; replace H := St.call (L := [(b, _)] ++ X) H hb; clear hb)
    first | (refine sK0 hF h rfl (by decide) ?_; clear h; intro a h) | (refine i_eqS hF h rfl rfl rfl (show (t == []) = false from beq_eq_false_iff_ne.2 fun e => by rw [ht.1 e] at hd; cases hd) (by decide) ?_; clear h; intro a h)
    refine s_pick hF h rfl rfl rfl (by decide) ?_
    clear h; intro a h
    refine i_callP hF h rfl (must_f _ _) rfl (by decide) ?_ (fun _ _ hf => hf.elim)
    rintro c w ⟨rfl, hb⟩; replace H := St.call (L := [(b, _)] ++ X) H hb
    with_reducible repeat (first | refine xa0 ?_ | refine xb0 ?_ | refine xc0 ?_ | refine xd0 ?_ | refine xe0 (by decide) ?_ | refine xf0 ?_ | refine xg0 ?_ | refine xh0 ?_ | refine xi0 ?_)
    exact leaveP h (.inr ⟨_, rfl, rfl, H.sub (List.sublist_append_right _ _)⟩)
theorem bytes_none {n0 : Nat} {w0 : World} {b : Nat} {v : Value} {X Z : List (Nat × Obj)} {w1 : World} {many : Nat}
 (hZ : Z.Sublist X) (H : St n0 w0 ([(b, .cells [v].toArray 70 (0, 0))] ++ X) w1) (hE : ∀ w, Reads n0 w0 Z w → ES str w v []) :
 RetsP Tryz.prog 31 [ptr b 0, int many] w1 (fun _ _ => False) (fun c w' => c = gave 200 ∧ St n0 w0 X w') := by
 refine enter Tryz.func31 rfl (Nat.le_of_ble_eq_true rfl) ?_
 intro a h; rw [Tryz.ntmps31] at h
 have hF := Fd.wide
 repeat refine cS0 ?_
 refine cR0 ?_
 refine sA0 hF h rfl rfl (by decide) ?_
 clear h; intro a h
 first | refine cEt0 ?_ | refine cE0 ?_
 repeat refine cS0 ?_
 refine cR0 ?_
 refine sM0 hF h rfl rfl (by decide) ?_
 clear h; intro a h
 refine i_nilCheck hF h rfl rfl (by decide) ?_
 clear h; intro a h
 refine iFa0 hF h rfl rfl rfl (by decide) ?_
 clear h; intro a h; try simp only [Nat.reduceAdd] at h
 refine i_callP hF h rfl (take_bad hZ H hE) rfl (by decide) ?_ (fun _ _ hf => hf.elim)
 clear H; rintro c w ⟨rfl, H⟩
 with_reducible repeat (first | refine xa0 ?_ | refine xb0 ?_ | refine xc0 ?_ | refine xd0 ?_ | refine xe0 (by decide) ?_ | refine xf0 ?_ | refine xg0 ?_ | refine xh0 ?_ | refine xi0 ?_)
 exact leaveP h (.inr ⟨_, rfl, rfl, H⟩)
theorem shl4 (p : Nat) (h : p < 16) : shI .i64 .shl (p : Int) 4 = some ((16 * p : Nat) : Int) := by
 have := upto (fun k => decide (shI .i64 .shl (k : Int) 4 = some ((16 * k : Nat) : Int))) 16 (by decide +kernel) p h
 exact of_decide_eq_true this
theorem or16 (p q : Nat) (hp : p < 16) (hq : q < 16) : bitI .i64 .or ((16 * p : Nat) : Int) (q : Int) = some ((16 * p + q : Nat) : Int) := by
 have := upto (fun k => decide (bitI .i64 .or ((16 * (k / 16) : Nat) : Int) ((k % 16 : Nat) : Int) = some ((16 * (k / 16) + k % 16 : Nat) : Int))) 256 (by decide +kernel) (16 * p + q) (by omega)
 have := of_decide_eq_true this
 rwa [show (16 * p + q) / 16 = p by omega, show (16 * p + q) % 16 = q by omega] at this
theorem bytes_ok {n0 : Nat} {w0 : World} {b : Nat} {v : Value} {x : List UInt8} {r : List (List UInt8)} {X Z : List (Nat × Obj)} {w1 : World} {many : Nat} {bs : List UInt8} (hm : many ≤ 32) (_ : x.length ≤ 100000) (hyes : bytesOf many x = some bs)
 (hZ : Z.Sublist X) (H : St n0 w0 ([(b, .cells [v].toArray 70 (0, 0))] ++ X) w1) (hE : ∀ w, Reads n0 w0 Z w → ES str w v (x :: r)) :
 Rets Tryz.prog 31 [ptr b 0, int many] w1 (fun u w' => ∃ v' R, RowIs 5 1 u bs.length (bs.map byt) R ∧ (∀ w, Reads n0 w0 Z w → ES str w v' r) ∧ St n0 w0 (R ++ ([(b, .cells [v'].toArray 70 (0, 0))] ++ X)) w') := by
 have hall := bytesOf_all many x
 rw [hyes] at hall
 simp only [Option.isSome_some, Bool.true_eq, Bool.and_eq_true, beq_iff_eq] at hall
 obtain ⟨⟨hp, hl⟩, hd⟩ := hall
 have htp : Lib.trimPrefix x [48, 120] = x.drop 2 := by unfold Lib.trimPrefix; rw [hp]; rfl
 have hdl : (x.drop 2).length ≤ x.length := by simp
 have hu : unhexs (x.drop 2) = some bs := by
  have hh : x.take 2 = [48, 120] := by rw [prefix_head] at hp; exact eq_of_beq hp
  have hux : unhex x = unhexs (x.drop 2) := by rw [unhex_head x hh]; rfl
  unfold bytesOf at hyes
  rw [hux] at hyes
  cases hs : unhexs (x.drop 2) with
  | none => rw [hs] at hyes; cases hyes
  | some t => rw [hs] at hyes; dsimp only at hyes; split at hyes; exact hyes; cases hyes
 have hbl : bs.length = many := by have := unhexs_length _ _ hu; omega
 refine enter Tryz.func31 rfl (Nat.le_of_ble_eq_true rfl) ?_
 intro a h; rw [Tryz.ntmps31] at h
 have hF := Fd.wide
 repeat refine cS0 ?_
 refine cR0 ?_
 refine sA0 hF h rfl rfl (by decide) ?_
 clear h; intro a h
 first | refine cEt0 ?_ | refine cE0 ?_
 repeat refine cS0 ?_
 refine cR0 ?_
 refine sM0 hF h rfl rfl (by decide) ?_
 clear h; intro a h
 refine i_nilCheck hF h rfl rfl (by decide) ?_
 clear h; intro a h
 refine iFa0 hF h rfl rfl rfl (by decide) ?_
 clear h; intro a h; try simp only [Nat.reduceAdd] at h
 refine i_call hF h rfl (take_ret hZ H hE) rfl (by decide) ?_
 clear h H; rintro _ w ⟨rfl, v', hE2, H⟩ a h
 refine i_call hF h rfl (cut_ret x _) rfl (by decide) ?_
 clear h; rintro _ w ⟨rfl, hb⟩ a h; replace H := St.call (L := [(b, _)] ++ X) H hb; clear hb
 refine sM0 hF h rfl rfl (by decide) ?_
 clear h; intro a h
 refine iX0 hF h rfl rfl rfl (by decide) ?_
 clear h; intro a h
 refine iX0 hF h rfl rfl rfl (by decide) ?_
 clear h; intro a h
 refine sA0 hF h rfl rfl (by decide) ?_
 clear h; intro a h
 refine sA0 hF h rfl rfl (by decide) ?_
 clear h; intro a h
 first | refine cEt0 ?_ | refine cE0 ?_
 simp only [hp, htp] at h
 repeat refine cS0 ?_
 refine cR0 ?_
 refine sM0 hF h rfl rfl (by decide) ?_
 clear h; intro a h
 refine sM0 hF h rfl rfl (by decide) ?_
 clear h; intro a h
 first | (refine sK0 hF h rfl (by decide) ?_; clear h; intro a h) | (refine sM0 hF h rfl rfl (by decide) ?_; clear h; intro a h)
 first | (refine sK0 hF h rfl (by decide) ?_; clear h; intro a h) | ((first | (refine i_len hF h rfl rfl (by decide) ?_) | (refine i_lenS hF h rfl rfl (by decide) ?_)); clear h; intro a h)
 first | (refine sK0 hF h rfl (by decide) ?_; clear h; intro a h) | (refine sM0 hF h rfl rfl (by decide) ?_; clear h; intro a h)
 first | (refine sK0 hF h rfl (by decide) ?_; clear h; intro a h) | (refine i_ar64 hF h rfl rfl rfl rfl (by omega) (by omega) (by decide) ?_; clear h; intro a h)
 first | (refine sK0 hF h rfl (by decide) ?_; clear h; intro a h) | ((first | (refine iC0 hF h rfl rfl rfl (i_eql_t (by omega)) (by decide) ?_) | (refine iC0 hF h rfl rfl rfl (i_eql_f (by omega)) (by decide) ?_)); clear h; intro a h)
 refine s_pick hF h rfl rfl rfl (by decide) ?_
 clear h; intro a h
 refine sM0 hF h rfl rfl (by decide) ?_
 clear h; intro a h
 first | (refine sK0 hF h rfl (by decide) ?_; clear h; intro a h) | (refine sM0 hF h rfl rfl (by decide) ?_; clear h; intro a h)
 first | (refine sK0 hF h rfl (by decide) ?_; clear h; intro a h) | (refine i_call hF h rfl (trim_ret (x.drop 2) (by omega) _) rfl (by decide) ?_; clear h; rintro _ w ⟨⟨t, rfl, ht⟩, hb⟩ a h; replace H := St.call (L := [(b, _)] ++ X) H hb; clear hb)
 first | (refine sK0 hF h rfl (by decide) ?_; clear h; intro a h) | (refine i_eqS hF h rfl rfl rfl (show (t == []) = true from beq_iff_eq.2 (ht.2 hd)) (by decide) ?_; clear h; intro a h)
 refine s_pick hF h rfl rfl rfl (by decide) ?_
 clear h; intro a h
 refine i_call hF h rfl (must_t _ _) rfl (by decide) ?_
 clear h; rintro _ w hb a h; replace H := St.call (L := [(b, _)] ++ X) H hb; clear hb
 first | refine cEt0 ?_ | refine cE0 ?_
 repeat refine cS0 ?_
 refine cR0 ?_
 refine sM0 hF h rfl rfl (by decide) ?_
 clear h; intro a h
 refine sM0 hF h rfl rfl (by decide) ?_
 clear h; intro a h
 first | refine cEt0 ?_ | refine cE0 ?_
 repeat refine cS0 ?_
 refine c_block ?_
 refine c_loopN (fun q a' w' => ∃ i acc u R, q = many - i ∧ i ≤ many ∧ acc.length = i ∧ unhexs (x.drop 2) = (unhexs ((x.drop 2).drop (2 * i))).map (acc ++ ·) ∧ RowIs 5 1 u acc.length (acc.map byt) R ∧ Fr 53 [] [(31, int (i : Nat)), (30, int many), (5, str (x.drop 2)), (4, u)] a' ∧ St n0 w0 (R ++ ([(b, .cells [v'].toArray 70 (0, 0))] ++ X)) w') many
  ⟨0, [], _, [], rfl, by omega, rfl, by simp, RowIs.nil 5 1, (h.sub (by repeat (first | exact trivial | refine ⟨rfl, ?_⟩))), H⟩ ?_
 clear h H
 rintro q a w ⟨i, acc, u, R, rfl, hi, hacc, hrel, hr, h, H⟩
 by_cases hil : i < many
 · repeat refine cS0 ?_
   refine cR0 ?_
   (first | (refine iC0 hF h rfl rfl rfl (i_lss_t (by omega)) (by decide) ?_) | (refine iC0 hF h rfl rfl rfl (i_lss_f (by omega)) (by decide) ?_))
   clear h; intro a h
   first | refine cEt0 ?_ | refine cE0 ?_
   repeat refine cS0 ?_
   refine c_condT h rfl ?_
   first | refine cKt0 ?_ | refine cK0 ?_
   have hi1 : 2 * i < (x.drop 2).length := by omega
   have hi2 : 2 * i + 1 < (x.drop 2).length := by omega
   obtain ⟨x1, hx1⟩ : ∃ y, (x.drop 2)[2 * i]? = some y := ⟨_, List.getElem?_eq_getElem hi1⟩
   obtain ⟨x2, hx2⟩ : ∃ y, (x.drop 2)[2 * i + 1]? = some y := ⟨_, List.getElem?_eq_getElem hi2⟩
   have hdr : (x.drop 2).drop (2 * i) = x1 :: x2 :: (x.drop 2).drop (2 * (i + 1)) := by
    rw [List.drop_eq_getElem_cons hi1, List.drop_eq_getElem_cons hi2, (List.getElem?_eq_some_iff.1 hx1).2, (List.getElem?_eq_some_iff.1 hx2).2]
    rfl
   have hD1 : (digit x1).isSome = true := by rw [← isD_digit]; exact List.all_eq_true.1 hd x1 (List.mem_of_getElem? hx1)
   have hD2 : (digit x2).isSome = true := by rw [← isD_digit]; exact List.all_eq_true.1 hd x2 (List.mem_of_getElem? hx2)
   obtain ⟨p, hd1⟩ := Option.isSome_iff_exists.1 hD1
   obtain ⟨q', hd2⟩ := Option.isSome_iff_exists.1 hD2
   have hp := (digit_hexd x1 p hd1).1
   have hq := (digit_hexd x2 q' hd2).1
   rw [hdr, unhexs, hd1, hd2] at hrel
   have hbyte : (Value.int .u8 ((16 * p + q' : Nat) : Int)) = byt (UInt8.ofNat (16 * p + q')) := by
    have e : (UInt8.ofNat (16 * p + q')).toNat = 16 * p + q' := by simp; omega
    rw [byt, e]
   repeat refine cS0 ?_
   refine c_block ?_
   repeat refine cS0 ?_
   refine cR0 ?_
   refine sM0 hF h rfl rfl (by decide) ?_
   clear h; intro a h
   refine sA0 hF h rfl rfl (by decide) ?_
   clear h; intro a h
   first | refine cEt0 ?_ | refine cE0 ?_
   repeat refine cS0 ?_
   refine d_regionS [] ([]) (by kernel_rfl) H (by repeat (first | exact ln1 | exact ls1 | exact lr1 | apply lk1 | apply List.Sublist.cons | apply la1)) ?_
   clear H; intro w H
   apply dQ0 hF h 0 rfl rfl (by kernel_rfl) (by decide) NoP.np (fun _ => H.sub (by repeat (first | exact ln1 | exact ls1 | exact lr1 | apply lk1 | apply List.Sublist.cons | apply la1)))
   · intro w
     refine sM0 hF h rfl rfl (by decide) ?_
     intro a h
     exact ⟨rfl, h⟩
   clear h; intro a h
   apply dQ0 hF h 1 rfl rfl (by kernel_rfl) (by decide) NoP.np (fun _ => H.sub (by repeat (first | exact ln1 | exact ls1 | exact lr1 | apply lk1 | apply List.Sublist.cons | apply la1)))
   · intro w
     refine sM0 hF h rfl rfl (by decide) ?_
     intro a h
     exact ⟨rfl, h⟩
   clear h; intro a h
   apply dQ0 hF h 2 rfl rfl (by kernel_rfl) (by decide) NoP.np (fun _ => H.sub (by repeat (first | exact ln1 | exact ls1 | exact lr1 | apply lk1 | apply List.Sublist.cons | apply la1)))
   · intro w
     refine sM0 hF h rfl rfl (by decide) ?_
     intro a h
     exact ⟨rfl, h⟩
   clear h; intro a h
   apply dQ0 hF h 3 rfl rfl (by kernel_rfl) (by decide) NoP.np (fun _ => H.sub (by repeat (first | exact ln1 | exact ls1 | exact lr1 | apply lk1 | apply List.Sublist.cons | apply la1)))
   · intro w
     refine i_ar64 hF h rfl rfl rfl rfl (by omega) (by omega) (by decide) ?_
     intro a h
     exact ⟨rfl, h⟩
   clear h; intro a h
   rw [show (2 : Int) * (i : Int) = ((2 * i : Nat) : Int) by omega] at h
   apply dQ0 hF h 4 rfl rfl (by kernel_rfl) (by decide) NoP.np (fun _ => H.sub (by repeat (first | exact ln1 | exact ls1 | exact lr1 | apply lk1 | apply List.Sublist.cons | apply la1)))
   · intro w
     refine i_indexStr hF h rfl rfl rfl hx1 (by decide) ?_
     intro a h
     exact ⟨rfl, h⟩
   clear h; intro a h
   apply dQ0 hF h 7 rfl rfl (by kernel_rfl) (by decide) NoP.np (fun _ => H.sub (by repeat (first | exact ln1 | exact ls1 | exact lr1 | apply lk1 | apply List.Sublist.cons | apply la1)))
   · intro w
     refine sM0 hF h rfl rfl (by decide) ?_
     intro a h
     exact ⟨rfl, h⟩
   clear h; intro a h
   apply dQ0 hF h 8 rfl rfl (by kernel_rfl) (by decide) NoP.np (fun _ => H.sub (by repeat (first | exact ln1 | exact ls1 | exact lr1 | apply lk1 | apply List.Sublist.cons | apply la1)))
   · intro w
     refine sM0 hF h rfl rfl (by decide) ?_
     intro a h
     exact ⟨rfl, h⟩
   clear h; intro a h
   apply dQ0 hF h 9 rfl rfl (by kernel_rfl) (by decide) NoP.np (fun _ => H.sub (by repeat (first | exact ln1 | exact ls1 | exact lr1 | apply lk1 | apply List.Sublist.cons | apply la1)))
   · intro w
     refine i_ar64 hF h rfl rfl rfl rfl (by omega) (by omega) (by decide) ?_
     intro a h
     exact ⟨rfl, h⟩
   clear h; intro a h
   apply dQ0 hF h 10 rfl rfl (by kernel_rfl) (by decide) NoP.np (fun _ => H.sub (by repeat (first | exact ln1 | exact ls1 | exact lr1 | apply lk1 | apply List.Sublist.cons | apply la1)))
   · intro w
     refine i_ar64 hF h rfl rfl rfl rfl (by omega) (by omega) (by decide) ?_
     intro a h
     exact ⟨rfl, h⟩
   clear h; intro a h
   rw [show (2 : Int) * (i : Int) + 1 = ((2 * i + 1 : Nat) : Int) by omega] at h
   apply dQ0 hF h 11 rfl rfl (by kernel_rfl) (by decide) NoP.np (fun _ => H.sub (by repeat (first | exact ln1 | exact ls1 | exact lr1 | apply lk1 | apply List.Sublist.cons | apply la1)))
   · intro w
     refine i_indexStr hF h rfl rfl rfl hx2 (by decide) ?_
     intro a h
     exact ⟨rfl, h⟩
   clear h; intro a h
   refine dE0 5 rfl (by kernel_rfl) ?_
   refine i_call hF h rfl (index_ret x1 _) rfl (by decide) ?_
   clear h; rintro _ w ⟨rfl, hb⟩ a h; replace H := St.call H hb; clear hb
   refine dN0 (H.sub (by repeat (first | exact ln1 | exact ls1 | exact lr1 | apply lk1 | apply List.Sublist.cons | apply la1))) ?_
   rw [show digitI x1 = p by unfold digitI; rw [hd1]] at h
   apply dQ0 hF h 6 rfl rfl (by kernel_rfl) (by decide) NoP.np (fun _ => H.sub (by repeat (first | exact ln1 | exact ls1 | exact lr1 | apply lk1 | apply List.Sublist.cons | apply la1)))
   · intro w
     refine i_sh hF h rfl rfl rfl (by decide) (shl4 p hp) (by decide) ?_
     intro a h
     exact ⟨rfl, h⟩
   clear h; intro a h
   refine dE0 12 rfl (by kernel_rfl) ?_
   refine i_call hF h rfl (index_ret x2 _) rfl (by decide) ?_
   clear h; rintro _ w ⟨rfl, hb⟩ a h; replace H := St.call H hb; clear hb
   refine dN0 (H.sub (by repeat (first | exact ln1 | exact ls1 | exact lr1 | apply lk1 | apply List.Sublist.cons | apply la1))) ?_
   rw [show digitI x2 = q' by unfold digitI; rw [hd2]] at h
   apply dQ0 hF h 13 rfl rfl (by kernel_rfl) (by decide) NoP.np (fun _ => H.sub (by repeat (first | exact ln1 | exact ls1 | exact lr1 | apply lk1 | apply List.Sublist.cons | apply la1)))
   · intro w
     refine i_bit hF h rfl rfl rfl (or16 p q' hp hq) (by decide) ?_
     intro a h
     exact ⟨rfl, h⟩
   clear h; intro a h
   apply dQ0 hF h 14 rfl rfl (by kernel_rfl) (by decide) NoP.np (fun _ => H.sub (by repeat (first | exact ln1 | exact ls1 | exact lr1 | apply lk1 | apply List.Sublist.cons | apply la1)))
   · intro w
     refine i_conv hF h rfl rfl (wrapTo _ _ (by simp only [IntKind.min, IntKind.signed, IntKind.bits, Bool.false_eq_true, if_false]; omega) (by simp only [IntKind.max, IntKind.signed, IntKind.bits, Bool.false_eq_true, if_false]; omega)) (by decide) ?_
     intro a h
     exact ⟨rfl, h⟩
   clear h; intro a h
   rw [hbyte] at h
   refine dE0 15 rfl (by kernel_rfl) ?_
   refine i_buildSlice hF h H rfl rfl (by decide) (by decide) rfl (by decide) ?_
   clear h H; intro a w b49 _ h H
   refine dN0 (H.sub (by repeat (first | exact ln1 | exact ls1 | exact lr1 | apply lk1 | apply List.Sublist.cons | apply la1))) ?_
   replace H := H.newIn
   refine dE0 16 rfl (by kernel_rfl) ?_
   refine i_append hF h hr H rfl rfl rfl (m := 1) (news := [byt (UInt8.ofNat (16 * p + q'))]) rfl (cells_own H (by repeat (first | exact mh1 | apply mt1 | apply ma1))) (by simp [Value.oneCell']) (by omega) (by omega) (by decide) ?_
   clear h H; intro a w u' R' hr' H h
   refine dN0 (H.sub (by repeat (first | exact ln1 | exact ls1 | exact lr1 | apply lk1 | apply List.Sublist.cons | apply la1))) ?_
   apply dQ0 hF h 17 rfl rfl (by kernel_rfl) (by decide) NoP.np (fun _ => H.sub (by repeat (first | exact ln1 | exact ls1 | exact lr1 | apply lk1 | apply List.Sublist.cons | apply la1)))
   · intro w
     refine sA0 hF h rfl rfl (by decide) ?_
     intro a h
     exact ⟨rfl, h⟩
   clear h; intro a h
   first | refine d_endThen (by kernel_rfl) ?_ | refine d_endQ (by kernel_rfl) ?_
   with_reducible repeat (first | refine xa0 ?_ | refine xb0 ?_ | refine xc0 ?_ | refine xd0 ?_ | refine xe0 (by decide) ?_ | refine xf0 ?_ | refine xg0 ?_ | refine xh0 ?_ | refine xi0 ?_)
   replace H := H.dropIn
   repeat refine cS0 ?_
   refine cR0 ?_
   refine i_ar64 hF h rfl rfl rfl rfl (by omega) (by omega) (by decide) ?_
   clear h; intro a h
   refine sM0 hF h rfl rfl (by decide) ?_
   clear h; intro a h
   refine cE0 ?_
   refine ⟨many - (i + 1), by omega, i + 1, acc ++ [UInt8.ofNat (16 * p + q')], u', R', rfl, by omega, by simp [hacc], ?_, by simpa using hr', (h.sub (by repeat (first | exact trivial | refine ⟨rfl, ?_⟩))), H⟩
   rw [hrel]
   dsimp only
   rw [Option.map_map]
   congr 1
   funext l
   simp
 · repeat refine cS0 ?_
   refine cR0 ?_
   (first | (refine iC0 hF h rfl rfl rfl (i_lss_t (by omega)) (by decide) ?_) | (refine iC0 hF h rfl rfl rfl (i_lss_f (by omega)) (by decide) ?_))
   clear h; intro a h
   first | refine cEt0 ?_ | refine cE0 ?_
   repeat refine cS0 ?_
   refine c_condF h rfl ?_
   refine c_exit ?_
   with_reducible repeat (first | refine xa0 ?_ | refine xb0 ?_ | refine xc0 ?_ | refine xd0 ?_ | refine xe0 (by decide) ?_ | refine xf0 ?_ | refine xg0 ?_ | refine xh0 ?_ | refine xi0 ?_)
   have hi3 : i = many := by omega
   rw [hu, List.drop_of_length_le (by omega), unhexs] at hrel
   have hbs : bs = acc := by simpa using hrel
   repeat refine cS0 ?_
   refine cR0 ?_
   refine sM0 hF h rfl rfl (by decide) ?_
   clear h; intro a h
   refine sA0 hF h rfl rfl (by decide) ?_
   clear h; intro a h
   first | refine cEt0 ?_ | refine cE0 ?_
   refine c_ret ?_
   with_reducible repeat (first | refine xa0 ?_ | refine xb0 ?_ | refine xc0 ?_ | refine xd0 ?_ | refine xe0 (by decide) ?_ | refine xf0 ?_ | refine xg0 ?_ | refine xh0 ?_ | refine xi0 ?_)
   refine leave (fn := Tryz.f31) h Tryz.results31 (.tmp rfl (.nil)) ?_
   rw [← hbs] at hr
   exact ⟨_, rfl, v', R, hr, hE2, H⟩
end Go.Proofs.YtjlmpghcjgbfjaaGreatDoor.Cw
namespace Go.Proofs.YtjlmpghcjgbfjaaGreatDoor.Cw
open Go Go.RowKit Go.Proofs Ex Cd
set_option maxRecDepth 100000
theorem mget_newA {α : Type} [DecidableEq α] {M : Ents α} {k k' : α} {v : Value} {c : Nat} (h : mget M k = none) : mget (M ++ [(k, v, c)]) k' = if k' = k then some v else mget M k' := by
 unfold mget at *
 rw [List.find?_append]
 by_cases e : k' = k
 · subst e
   rw [if_pos rfl]
   rw [Option.map_eq_none_iff] at h
   rw [h]
   simp
 · rw [if_neg e]
   cases hf : M.find? (fun x => decide (x.1 = k')) with
   | some y => simp
   | none =>
    have : ¬ k = k' := fun e' => e e'.symm
    simp [this]
theorem mget_keyA {α : Type} [DecidableEq α] {M : Ents α} {k : α} (h : mget M k = none) : ¬ k ∈ M.map (·.1) := by
 intro hk
 obtain ⟨x, hx, e⟩ := List.mem_map.1 hk
 unfold mget at h
 rw [Option.map_eq_none_iff, List.find?_eq_none] at h
 exact h x hx (by simpa using e)
theorem ok_newA {α : Type} [DecidableEq α] {M : Ents α} {k : α} {v : Value} {c : Nat} (hM : MapOk M c) (h : mget M k = none) : MapOk (M ++ [(k, v, c)]) (c + 1) := by
 refine ⟨?_, ?_, ?_⟩
 · intro x hx
   rcases List.mem_append.1 hx with hx | hx
   · have := hM.old x hx; omega
   · have : x = (k, v, c) := by simpa using hx
     subst this; exact Nat.lt_succ_self c
 · rw [List.map_append, List.nodup_append]
   refine ⟨hM.born, by simp, ?_⟩
   intro a ha b hb e
   obtain ⟨x, hx, e2⟩ := List.mem_map.1 ha
   have := hM.old x hx
   have : b = c := by simpa using hb
   omega
 · rw [List.map_append, List.nodup_append]
   refine ⟨hM.key, by simp, ?_⟩
   intro a ha b hb e
   have : b = k := by simpa using hb
   subst this; subst e
   exact mget_keyA h ha
theorem mget_mem {α : Type} [DecidableEq α] {M : Ents α} (hk : (M.map (·.1)).Nodup) {x : α × Value × Nat} (hx : x ∈ M) : mget M x.1 = some x.2.1 := by
 unfold mget
 induction M with
 | nil => cases hx
 | cons z l ih =>
  rw [List.map_cons, List.nodup_cons] at hk
  rw [List.find?_cons]
  rcases List.mem_cons.1 hx with rfl | hx
  · simp
  · have hne : ¬ z.1 = x.1 := fun e => hk.1 (List.mem_map.2 ⟨x, hx, e.symm⟩)
    simp only [hne, decide_false]
    exact ih hk.2 hx
/-- the name of an op -/
def nmOf (k : UInt8) : List UInt8 := ((info k.toNat).getD noneI).1
/-- the names of ops, as far as a walk over the table has come -/
def Names (vis : Ents UInt8) (Nn : Ents (List UInt8)) (c : Nat) : Prop :=
 MapOk Nn c ∧ (∀ x ∈ vis, mget Nn (nmOf x.1) = some (byt x.1)) ∧ (∀ nm, (∀ x ∈ vis, nmOf x.1 ≠ nm) → mget Nn nm = none)
theorem Names.nil : Names [] [] 0 := ⟨MapOk.nil, by simp, fun _ _ => rfl⟩
theorem nmOf_inj {k k' : UInt8} (h : (info k.toNat).isSome = true) (h' : (info k'.toNat).isSome = true) (e : nmOf k = nmOf k') : k = k' := by
 obtain ⟨x, hx⟩ := Option.isSome_iff_exists.1 h
 obtain ⟨y, hy⟩ := Option.isSome_iff_exists.1 h'
 have h1 := named_known k.toNat x k.toNat_lt hx
 have h2 := named_known k'.toNat y k'.toNat_lt hy
 have e1 : x.1 = y.1 := by simpa [nmOf, hx, hy] using e
 rw [e1, h2] at h1
 exact UInt8.toNat_inj.1 (Option.some.inj h1).symm
theorem tab_entry {M : Ents UInt8} {c : Nat} (hT : Tab (fun op => (info op).isSome = true) M c) {x : UInt8 × Value × Nat} (hx : x ∈ M) : ∃ y, info x.1.toNat = some y ∧ x.2.1 = valI y := by
 have hm := mget_mem hT.1.key hx
 by_cases hi : (info x.1.toNat).isSome = true
 · obtain ⟨y, hy⟩ := Option.isSome_iff_exists.1 hi
   have := (hT.2 x.1).1 hi
   rw [hm, hy] at this
   exact ⟨y, hy, Option.some.inj this⟩
 · have := (hT.2 x.1).2 hi
   rw [hm] at this
   cases this
theorem Names.fresh {M vis : Ents UInt8} {c c' : Nat} {Nn : Ents (List UInt8)} (hT : Tab (fun op => (info op).isSome = true) M c) (hN : Names vis Nn c') (hv : ∀ x ∈ vis, x ∈ M) {x : UInt8 × Value × Nat} (hx : x ∈ M) (hns : x.2.2 ∉ vis.map (·.2.2)) : mget Nn (nmOf x.1) = none := by
 refine hN.2.2 _ fun y hy e => hns ?_
 obtain ⟨ix, h1, _⟩ := tab_entry hT hx
 obtain ⟨iy, h2, _⟩ := tab_entry hT (hv y hy)
 have := nmOf_inj (by rw [h2]; rfl) (by rw [h1]; rfl) e
 have hxy : y = x := inj_of_map (·.1) M hT.1.key y (hv y hy) x hx this
 rw [← hxy]
 exact List.mem_map.2 ⟨y, hy, rfl⟩
theorem Names.more {vis : Ents UInt8} {c' : Nat} {Nn : Ents (List UInt8)} (hN : Names vis Nn c') {x : UInt8 × Value × Nat} (hf : mget Nn (nmOf x.1) = none) : Names (vis ++ [x]) (Nn ++ [(nmOf x.1, byt x.1, c')]) (c' + 1) := by
 refine ⟨ok_newA hN.1 hf, ?_, ?_⟩
 · intro y hy
   rw [mget_newA hf]
   rcases List.mem_append.1 hy with hy | hy
   · have := hN.2.1 y hy
     rw [if_neg (fun e => by rw [e, hf] at this; cases this)]
     exact this
   · have : y = x := by simpa using hy
     subst this
     rw [if_pos rfl]
 · intro nm hnm
   rw [mget_newA hf, if_neg (fun e => hnm x (by simp) e.symm)]
   exact hN.2.2 nm fun y hy => hnm y (by simp [hy])
theorem Names.all {M vis : Ents UInt8} {c c' : Nat} {Nn : Ents (List UInt8)} (hT : Tab (fun op => (info op).isSome = true) M c) (hN : Names vis Nn c') (hv : ∀ x ∈ vis, x ∈ M) (hall : ∀ x ∈ M, x ∈ vis) (nm : List UInt8) :
 mget Nn nm = (named nm).map fun op => byt (UInt8.ofNat op) := by
 cases hn : named nm with
 | some op =>
  obtain ⟨ho, y, hy, e⟩ := named_info nm op hn
  have e8 : (UInt8.ofNat op).toNat = op := by simp; omega
  have hk : UInt8.ofNat op ∈ M.map (·.1) := (hT.keys _).2 (by rw [e8, hy]; rfl)
  obtain ⟨x, hx, ex⟩ := List.mem_map.1 hk
  have := hN.2.1 x (hall x hx)
  rw [ex] at this
  have enm : nmOf (UInt8.ofNat op) = nm := by unfold nmOf; rw [e8, hy]; exact e
  rw [enm] at this
  exact this
 | none =>
  refine hN.2.2 nm fun x hx e => ?_
  obtain ⟨y, hy, _⟩ := tab_entry hT (hv x hx)
  have := named_of nm x.1.toNat y x.1.toNat_lt hy (by simpa [nmOf, hy] using e)
  rw [hn] at this
  cases this
theorem split_no (s : List UInt8) : ∀ part, ¬ (32 : UInt8) ∈ s → splitGo part s = [part ++ s] := by
 induction s with
 | nil => intro part _; simp [splitGo]
 | cons x s ih =>
  intro part h
  rw [splitGo, if_neg (fun e => h (by simp [e])), ih _ (fun hm => h (by simp [hm]))]
  simp
theorem split_at (s : List UInt8) : ∀ (part : List UInt8) (k : Nat), s[k]? = some 32 → (∀ j, j < k → s[j]? ≠ some 32) → splitGo part s = (part ++ s.take k) :: splitGo [] (s.drop (k + 1)) := by
 induction s with
 | nil => intro part k h; simp at h
 | cons x s ih =>
  intro part k h hno
  cases k with
  | zero =>
   have : x = 32 := by simpa using h
   rw [splitGo, if_pos this]; simp
  | succ k =>
   have hx : x ≠ 32 := fun e => hno 0 (by omega) (by simp [e])
   rw [splitGo, if_neg hx, ih (part ++ [x]) k (by simpa using h) (fun j hj => by simpa using hno (j + 1) (by omega))]
   simp
theorem count_split (s : List UInt8) : ∀ part, (splitGo part s).length = s.count 32 + 1 := by
 induction s with
 | nil => intro part; simp [splitGo]
 | cons x s ih =>
  intro part
  rw [splitGo]
  split
  · rename_i e; rw [List.length_cons, ih, e]; simp
  · rename_i e; rw [ih, List.count_cons_of_ne (fun e' => e e')]
theorem count_ret (s : List UInt8) (w : World) : Rets Tryz.prog 67 [str s, str [32]] w fun v w' => v = int (s.count 32 : Nat) ∧ Below w.heap.size w w' := by
 refine Calls.mono (Tryz.strings_Count_one ⟨s.toArray⟩ 32 w) ?_
 rintro e w' ⟨rfl, rfl⟩
 exact ⟨_, rfl, rfl, Below.refl _ _⟩
theorem indexOf_ret (s : List UInt8) (w : World) : Rets Tryz.prog 68 [str s, str [32]] w fun v w' => v = int (Lib.indexByte s 32) ∧ Below w.heap.size w w' := by
 refine Calls.mono (Tryz.strings_Index_one ⟨s.toArray⟩ 32 w) ?_
 rintro e w' ⟨rfl, rfl⟩
 exact ⟨_, rfl, rfl, Below.refl _ _⟩
end Go.Proofs.YtjlmpghcjgbfjaaGreatDoor.Cw
namespace Go.Proofs.YtjlmpghcjgbfjaaGreatDoor.Cw
open Go Go.RowKit Go.Proofs Ex Cd
set_option maxRecDepth 100000
def rowS (ps : List (List UInt8)) (n : Nat) : List Value := ps.map str ++ List.replicate (n - ps.length) (str [])
theorem rowS_set (ps : List (List UInt8)) (n : Nat) (p : List UInt8) (h : ps.length < n) : (rowS ps n).set ps.length (str p) = rowS (ps ++ [p]) n := by
 unfold rowS
 obtain ⟨k, hk⟩ : ∃ k, n - ps.length = k + 1 := ⟨n - ps.length - 1, by omega⟩
 rw [hk, List.replicate_succ, List.set_append_right _ _ (by simp)]
 simp only [List.length_map, Nat.sub_self, List.set_cons_zero, List.map_append, List.map_cons, List.map_nil, List.length_append, List.length_cons, List.length_nil]
 rw [show n - (ps.length + (0 + 1)) = k by omega]
 simp
theorem rowS_length (ps : List (List UInt8)) (n : Nat) (h : ps.length ≤ n) : (rowS ps n).length = n := by
 unfold rowS; simp; omega
theorem gsplit_ret (s : List UInt8) (hs : s.length ≤ 100000) (w0 : World) : Rets Tryz.prog 52 [str s, str [32], int 0, int (-1)] w0 fun u w' => GivesRow 9 str (split s) w0 u w' := by
 have hcl : s.count 32 ≤ s.length := List.count_le_length
 refine enter Tryz.func52 rfl (Nat.le_of_ble_eq_true rfl) ?_
 intro a h; rw [Tryz.ntmps52] at h
 have hF := Fd.wide; have H := St.begin w0
 repeat refine cS0 ?_
 refine cR0 ?_
 refine sA0 hF h rfl rfl (by decide) ?_
 clear h; intro a h
 first | refine cEt0 ?_ | refine cE0 ?_
 repeat refine cS0 ?_
 refine cR0 ?_
 refine sM0 hF h rfl rfl (by decide) ?_
 clear h; intro a h
 (first | (refine iC0 hF h rfl rfl rfl (i_eql_t (by omega)) (by decide) ?_) | (refine iC0 hF h rfl rfl rfl (i_eql_f (by omega)) (by decide) ?_))
 clear h; intro a h
 first | refine cEt0 ?_ | refine cE0 ?_
 repeat refine cS0 ?_
 refine c_condF h rfl ?_
 first | refine cKt0 ?_ | refine cK0 ?_
 repeat refine cS0 ?_
 refine cR0 ?_
 refine sM0 hF h rfl rfl (by decide) ?_
 clear h; intro a h
 refine i_eqS hF h rfl rfl rfl rfl (by decide) ?_
 clear h; intro a h
 first | refine cEt0 ?_ | refine cE0 ?_
 repeat refine cS0 ?_
 refine c_condF h rfl ?_
 first | refine cKt0 ?_ | refine cK0 ?_
 repeat refine cS0 ?_
 refine cR0 ?_
 refine sM0 hF h rfl rfl (by decide) ?_
 clear h; intro a h
 (first | (refine iC0 hF h rfl rfl rfl (i_lss_t (by omega)) (by decide) ?_) | (refine iC0 hF h rfl rfl rfl (i_lss_f (by omega)) (by decide) ?_))
 clear h; intro a h
 first | refine cEt0 ?_ | refine cE0 ?_
 repeat refine cS0 ?_
 refine c_condT h rfl ?_
 repeat refine cS0 ?_
 refine cR0 ?_
 refine sM0 hF h rfl rfl (by decide) ?_
 clear h; intro a h
 refine sM0 hF h rfl rfl (by decide) ?_
 clear h; intro a h
 refine i_call hF h rfl (count_ret s _) rfl (by decide) ?_
 clear h; rintro _ w ⟨rfl, hb⟩ a h; replace H := H.call hb; clear hb
 refine i_ar64 hF h rfl rfl rfl rfl (by omega) (by omega) (by decide) ?_
 clear h; intro a h
 refine sA0 hF h rfl rfl (by decide) ?_
 clear h; intro a h
 first | refine cEt0 ?_ | refine cE0 ?_
 repeat refine cS0 ?_
 refine cR0 ?_
 refine sM0 hF h rfl rfl (by decide) ?_
 clear h; intro a h
 refine sM0 hF h rfl rfl (by decide) ?_
 clear h; intro a h
 (first | (refine i_len hF h rfl rfl (by decide) ?_) | (refine i_lenS hF h rfl rfl (by decide) ?_))
 clear h; intro a h
 refine i_ar64 hF h rfl rfl rfl rfl (by omega) (by omega) (by decide) ?_
 clear h; intro a h
 refine i_min hF h rfl rfl rfl (by decide) ?_
 clear h; intro a h; rw [if_neg (by omega)] at h
 refine sA0 hF h rfl rfl (by decide) ?_
 clear h; intro a h
 first | refine cEt0 ?_ | refine cE0 ?_
 rw [show ((s.count 32 : Nat) : Int) + 1 = ((s.count 32 + 1 : Nat) : Int) by omega] at h
 repeat refine cS0 ?_
 refine cR0 ?_
 refine sM0 hF h rfl rfl (by decide) ?_
 clear h; intro a h
 refine i_makeE (k := s.count 32 + 1) (bytes := 16) (z := str []) hF h H rfl (by kernel_rfl) rfl rfl (by omega) (by decide) (by decide) ?_
 clear h H; intro a w b31 _ h H
 refine sA0 hF h rfl rfl (by decide) ?_
 clear h; intro a h
 first | refine cEt0 ?_ | refine cE0 ?_
 repeat refine cS0 ?_
 refine cR0 ?_
 refine sM0 hF h rfl rfl (by decide) ?_
 clear h; intro a h
 refine i_ar64 hF h rfl rfl rfl rfl (by omega) (by omega) (by decide) ?_
 clear h; intro a h
 refine sA0 hF h rfl rfl (by decide) ?_
 clear h; intro a h
 first | refine cEt0 ?_ | refine cE0 ?_
 repeat refine cS0 ?_
 refine cR0 ?_
 refine sA0 hF h rfl rfl (by decide) ?_
 clear h; intro a h
 first | refine cEt0 ?_ | refine cE0 ?_
 rw [show ((s.count 32 + 1 : Nat) : Int) - 1 = ((s.count 32 : Nat) : Int) by omega] at h
 repeat refine cS0 ?_
 refine c_join (fun a' w' => ∃ ps t, ps.length = s.count 32 ∧ split s = ps ++ [t] ∧ Fr 66 [] [(10, int (ps.length : Nat)), (9, sl b31 (s.count 32 + 1) (s.count 32 + 1)), (0, str t)] a' ∧ St w0.heap.size w0 [(b31, .cells (rowS ps (s.count 32 + 1)).toArray 9 (0, 0))] w') ?_ ?_
 · refine c_block ?_
   refine c_loopN (fun q a' w' => ∃ ps t, q = s.count 32 - ps.length ∧ ps.length ≤ s.count 32 ∧ t.count 32 = s.count 32 - ps.length ∧ t.length ≤ s.length ∧ split s = ps ++ splitGo [] t ∧ Fr 66 [] [(10, int (ps.length : Nat)), (9, sl b31 (s.count 32 + 1) (s.count 32 + 1)), (3, int (s.count 32 : Nat)), (2, int 0), (1, str [32]), (0, str t)] a' ∧ St w0.heap.size w0 [(b31, .cells (rowS ps (s.count 32 + 1)).toArray 9 (0, 0))] w') (s.count 32)
    ⟨[], s, rfl, by simp, rfl, Nat.le_refl _, rfl, (h.sub (by repeat (first | exact trivial | refine ⟨rfl, ?_⟩))), H⟩ ?_
   clear h H
   rintro q a w ⟨ps, t, rfl, hps, hct, htl, hsp, h, H⟩
   by_cases hi : ps.length < s.count 32
   · repeat refine cS0 ?_
     refine cR0 ?_
     refine sM0 hF h rfl rfl (by decide) ?_
     clear h; intro a h
     refine sM0 hF h rfl rfl (by decide) ?_
     clear h; intro a h
     (first | (refine iC0 hF h rfl rfl rfl (i_lss_t (by omega)) (by decide) ?_) | (refine iC0 hF h rfl rfl rfl (i_lss_f (by omega)) (by decide) ?_))
     clear h; intro a h
     first | refine cEt0 ?_ | refine cE0 ?_
     repeat refine cS0 ?_
     refine c_condT h rfl ?_
     first | refine cKt0 ?_ | refine cK0 ?_
     have hmem : (32 : UInt8) ∈ t := List.count_pos_iff.1 (by omega)
     have hidx : Lib.indexByte t 32 ≠ -1 := fun e => by
      obtain ⟨j, hj, he⟩ := List.getElem_of_mem hmem
      exact Go.Lib.indexByte_none e j (by rw [List.getElem?_eq_getElem hj, he])
     have hge := Go.Lib.indexByte_ge t 32
     obtain ⟨k, hk⟩ : ∃ k : Nat, Lib.indexByte t 32 = k := ⟨(Lib.indexByte t 32).toNat, by omega⟩
     obtain ⟨hk1, hk2⟩ := Go.Lib.indexByte_some hk
     have hkl : k < t.length := (List.getElem?_eq_some_iff.1 hk1).1
     have hspk := split_at t [] k hk1 (fun j hj => hk2 j hj)
     rw [List.nil_append] at hspk
     have hcnt : (t.drop (k + 1)).count 32 + 1 = t.count 32 := by
      have h1 := count_split t []
      have h2 := count_split (t.drop (k + 1)) []
      rw [hspk, List.length_cons] at h1
      omega
     repeat refine cS0 ?_
     refine c_block ?_
     repeat refine cS0 ?_
     refine cR0 ?_
     refine sM0 hF h rfl rfl (by decide) ?_
     clear h; intro a h
     refine sM0 hF h rfl rfl (by decide) ?_
     clear h; intro a h
     refine i_call hF h rfl (indexOf_ret t _) rfl (by decide) ?_
     clear h; rintro _ w ⟨rfl, hb⟩ a h; replace H := H.call hb; clear hb
     refine sA0 hF h rfl rfl (by decide) ?_
     clear h; intro a h
     first | refine cEt0 ?_ | refine cE0 ?_
     rw [hk] at h
     repeat refine cS0 ?_
     refine cR0 ?_
     refine sM0 hF h rfl rfl (by decide) ?_
     clear h; intro a h
     (first | (refine iC0 hF h rfl rfl rfl (i_lss_t (by omega)) (by decide) ?_) | (refine iC0 hF h rfl rfl rfl (i_lss_f (by omega)) (by decide) ?_))
     clear h; intro a h
     first | refine cEt0 ?_ | refine cE0 ?_
     repeat refine cS0 ?_
     refine c_condF h rfl ?_
     first | refine cKt0 ?_ | refine cK0 ?_
     have hone : [(32 : UInt8)].length = 1 := rfl
     repeat refine cS0 ?_
     refine cR0 ?_
     refine sM0 hF h rfl rfl (by decide) ?_
     clear h; intro a h
     refine sM0 hF h rfl rfl (by decide) ?_
     clear h; intro a h
     refine sM0 hF h rfl rfl (by decide) ?_
     clear h; intro a h
     refine sM0 hF h rfl rfl (by decide) ?_
     clear h; intro a h
     refine sM0 hF h rfl rfl (by decide) ?_
     clear h; intro a h
     refine i_ar64 hF h rfl rfl rfl rfl (by omega) (by omega) (by decide) ?_
     clear h; intro a h
     rw [Int.add_zero] at h
     refine i_sliceS (i := 0) (j := k) hF h rfl rfl rfl ⟨.i64, rfl⟩ (by omega) (by omega) (by decide) ?_
     clear h; intro a h; rw [List.drop_zero] at h
     refine i_idxRow hF h rfl rfl rfl (by omega) (by omega) (by decide) ?_
     clear h; intro a h; simp only [Int.toNat_natCast] at h
     refine i_store hF h H rfl rfl rfl rfl (by repeat (first | exact Upd.here | apply Upd.there | apply Upd.app)) (rowS_set ps _ _ (by omega)) (by rw [rowS_length _ _ (by omega)]; omega) ?_
     clear H; intro w H
     first | refine cEt0 ?_ | refine cE0 ?_
     repeat refine cS0 ?_
     refine cR0 ?_
     refine sM0 hF h rfl rfl (by decide) ?_
     clear h; intro a h
     refine sM0 hF h rfl rfl (by decide) ?_
     clear h; intro a h
     refine sM0 hF h rfl rfl (by decide) ?_
     clear h; intro a h
     (first | (refine i_len hF h rfl rfl (by decide) ?_) | (refine i_lenS hF h rfl rfl (by decide) ?_))
     clear h; intro a h
     refine i_ar64 hF h rfl rfl rfl rfl (by omega) (by omega) (by decide) ?_
     clear h; intro a h
     rw [show (k : Int) + (([(32 : UInt8)].length : Nat) : Int) = ((k + 1 : Nat) : Int) by rw [hone]; omega] at h
     refine i_sliceS (i := k + 1) (j := t.length) hF h rfl rfl ⟨.i64, rfl⟩ rfl (by omega) (Nat.le_refl _) (by decide) ?_
     clear h; intro a h; rw [List.take_length] at h
     refine sA0 hF h rfl rfl (by decide) ?_
     clear h; intro a h
     first | refine cEt0 ?_ | refine cE0 ?_
     repeat refine cS0 ?_
     refine cR0 ?_
     refine sM0 hF h rfl rfl (by decide) ?_
     clear h; intro a h
     refine i_ar64 hF h rfl rfl rfl rfl (by omega) (by omega) (by decide) ?_
     clear h; intro a h
     refine sA0 hF h rfl rfl (by decide) ?_
     clear h; intro a h
     refine cE0 ?_
     with_reducible repeat (first | refine xa0 ?_ | refine xb0 ?_ | refine xc0 ?_ | refine xd0 ?_ | refine xe0 (by decide) ?_ | refine xf0 ?_ | refine xg0 ?_ | refine xh0 ?_ | refine xi0 ?_)
     refine ⟨s.count 32 - (ps.length + 1), by omega, ps ++ [t.take k], t.drop (k + 1), by simp, by simp; omega, by simp; omega, by simp; omega, by rw [hsp, hspk]; simp, ?_, H⟩
     rw [show ((ps ++ [t.take k]).length : Nat) = ps.length + 1 by simp]
     exact (h.sub (by repeat (first | exact trivial | refine ⟨rfl, ?_⟩)))
   · repeat refine cS0 ?_
     refine cR0 ?_
     refine sM0 hF h rfl rfl (by decide) ?_
     clear h; intro a h
     refine sM0 hF h rfl rfl (by decide) ?_
     clear h; intro a h
     (first | (refine iC0 hF h rfl rfl rfl (i_lss_t (by omega)) (by decide) ?_) | (refine iC0 hF h rfl rfl rfl (i_lss_f (by omega)) (by decide) ?_))
     clear h; intro a h
     first | refine cEt0 ?_ | refine cE0 ?_
     repeat refine cS0 ?_
     refine c_condF h rfl ?_
     refine c_exit ?_
     with_reducible repeat (first | refine xa0 ?_ | refine xb0 ?_ | refine xc0 ?_ | refine xd0 ?_ | refine xe0 (by decide) ?_ | refine xf0 ?_ | refine xg0 ?_ | refine xh0 ?_ | refine xi0 ?_)
     have hps2 : ps.length = s.count 32 := by omega
     have hno : ¬ (32 : UInt8) ∈ t := fun hm => by have := List.count_pos_iff.2 hm; omega
     have := split_no t [] hno
     rw [List.nil_append] at this
     exact ⟨ps, t, hps2, by rw [hsp, this], (h.sub (by repeat (first | exact trivial | refine ⟨rfl, ?_⟩))), H⟩
 · clear h H
   rintro a w ⟨ps, t, hps, hsp, h, H⟩
   repeat refine cS0 ?_
   refine cR0 ?_
   refine sM0 hF h rfl rfl (by decide) ?_
   clear h; intro a h
   refine sM0 hF h rfl rfl (by decide) ?_
   clear h; intro a h
   refine sM0 hF h rfl rfl (by decide) ?_
   clear h; intro a h
   refine i_idxRow hF h rfl rfl rfl (by omega) (by omega) (by decide) ?_
   clear h; intro a h; simp only [Int.toNat_natCast] at h
   refine i_store hF h H rfl rfl rfl rfl (by repeat (first | exact Upd.here | apply Upd.there | apply Upd.app)) (rowS_set ps _ _ (by omega)) (by rw [rowS_length _ _ (by omega)]; omega) ?_
   clear H; intro w H
   first | refine cEt0 ?_ | refine cE0 ?_
   repeat refine cS0 ?_
   refine cR0 ?_
   refine sM0 hF h rfl rfl (by decide) ?_
   clear h; intro a h
   refine sM0 hF h rfl rfl (by decide) ?_
   clear h; intro a h
   refine i_ar64 hF h rfl rfl rfl rfl (by omega) (by omega) (by decide) ?_
   clear h; intro a h
   rw [show (ps.length : Int) + 1 = ((s.count 32 + 1 : Nat) : Int) by omega] at h
   refine i_slice (i := 0) (j := s.count 32 + 1) hF h rfl rfl rfl ⟨.i64, rfl⟩ (by omega) (Nat.le_refl _) (by decide) ?_ (by omega)
   clear h; intro a h; rw [if_neg (by omega), Nat.sub_zero, Option.map_some, Nat.zero_mul, add_mk, Nat.add_zero] at h
   refine sA0 hF h rfl rfl (by decide) ?_
   clear h; intro a h
   first | refine cEt0 ?_ | refine cE0 ?_
   refine c_ret ?_
   with_reducible repeat (first | refine xa0 ?_ | refine xb0 ?_ | refine xc0 ?_ | refine xd0 ?_ | refine xe0 (by decide) ?_ | refine xf0 ?_ | refine xg0 ?_ | refine xh0 ?_ | refine xi0 ?_)
   refine leave (fn := Tryz.f52) h Tryz.results52 (.tmp rfl (.nil)) ?_
   have hlen : (split s).length = s.count 32 + 1 := by rw [hsp]; simp [hps]
   have hrow : rowS (ps ++ [t]) (s.count 32 + 1) = (split s).map str := by
    rw [hsp]; unfold rowS; simp [hps]
   rw [hrow] at H
   refine ⟨_, rfl, GivesRow.of (n := s.count 32 + 1) (L := []) ⟨by simp [hlen], .inr ⟨b31, s.count 32 + 1, [], rfl, Nat.le_refl _, by unfold maxLen; omega, by simp [hlen], by rw [List.append_nil]⟩⟩ rfl H⟩
theorem ssplit_ret (s : List UInt8) (hs : s.length ≤ 100000) (w0 : World) : Rets Tryz.prog 30 [str s, str [32]] w0 fun u w' => GivesRow 9 str (split s) w0 u w' := by
 refine enter Tryz.func30 rfl (Nat.le_of_ble_eq_true rfl) ?_
 intro a h; rw [Tryz.ntmps30] at h
 have hF := Fd.wide; have H := St.begin w0
 repeat refine cS0 ?_
 refine cR0 ?_
 refine sA0 hF h rfl rfl (by decide) ?_
 clear h; intro a h
 first | refine cEt0 ?_ | refine cE0 ?_
 repeat refine cS0 ?_
 refine cR0 ?_
 refine sM0 hF h rfl rfl (by decide) ?_
 clear h; intro a h
 refine sM0 hF h rfl rfl (by decide) ?_
 clear h; intro a h
 refine i_call hF h rfl (gsplit_ret s hs _) rfl (by decide) ?_
 clear h; rintro v w hg a h; obtain ⟨R, hr, H2⟩ := H.row hg; replace H := H2; clear H2 hg
 refine sA0 hF h rfl rfl (by decide) ?_
 clear h; intro a h
 first | refine cEt0 ?_ | refine cE0 ?_
 refine c_ret ?_
 with_reducible repeat (first | refine xa0 ?_ | refine xb0 ?_ | refine xc0 ?_ | refine xd0 ?_ | refine xe0 (by decide) ?_ | refine xf0 ?_ | refine xg0 ?_ | refine xh0 ?_ | refine xi0 ?_)
 refine leave (fn := Tryz.f30) h Tryz.results30 (.tmp rfl (.nil)) ?_
 exact ⟨_, rfl, GivesRow.of (L := []) hr rfl H⟩
end Go.Proofs.YtjlmpghcjgbfjaaGreatDoor.Cw
namespace Go.Proofs.YtjlmpghcjgbfjaaGreatDoor.Cw
open Go Go.RowKit Go.Proofs Ex Cd
set_option maxRecDepth 100000
def readNo : Cd.Read → Int
 | .code _ => 0
 | .long => 3
 | .bad => 200
def readL : Cd.Read → List UInt8
 | .code l => l
 | _ => []
theorem mem_join : ∀ (ws : List (List UInt8)) (x : List UInt8), x ∈ ws → x.length ≤ (Cd.join ws).length
 | [], _, h => by cases h
 | [y], x, h => by rw [join_one]; simp at h; subst h; exact Nat.le_refl _
 | y :: z :: ws, x, h => by
  rw [join_cons2, List.length_append, List.length_cons]
  rcases List.mem_cons.1 h with rfl | h
  · omega
  · have := mem_join (z :: ws) x h
    omega
theorem many_join : ∀ (ws : List (List UInt8)), ws.length ≤ (Cd.join ws).length + 1
 | [] => by simp
 | [y] => by simp
 | y :: z :: ws => by
  have := many_join (z :: ws)
  rw [join_cons2, List.length_append, List.length_cons]
  simp at *; omega
theorem split_len (s : List UInt8) : (split s).length ≤ s.length + 1 := by
 have := many_join (split s)
 rwa [join_split] at this
theorem split_mem (s x : List UInt8) (h : x ∈ split s) : x.length ≤ s.length := by
 have := mem_join (split s) x h
 rwa [join_split] at this
theorem parse_split (s : List UInt8) (h1 : s.length ≤ 65536) (h2 : s ≠ []) : parse s = match parseW (split s) with | some l => .code l | none => .bad := by
 unfold parse
 rw [if_neg (by omega), if_neg h2]
 cases parseW (split s) <;> rfl
set_option maxHeartbeats 1000000 in
theorem rparse_ret (s : List UInt8) (hs : s.length ≤ 70000) (w0 : World) : Rets Tryz.prog 12 [str s] w0 fun v w' => ∃ u, v = .tuple #[u, int (readNo (parse s))] ∧ GivesRow 5 byt (readL (parse s)) w0 u w' := by
 refine enter Tryz.func12 rfl (Nat.le_of_ble_eq_true rfl) ?_
 intro a h; rw [Tryz.ntmps12] at h
 have hF := Fd.wide; have H := St.begin w0
 repeat refine cS0 ?_
 refine cR0 ?_
 refine sA0 hF h rfl rfl (by decide) ?_
 clear h; intro a h
 refine sA0 hF h rfl rfl (by decide) ?_
 clear h; intro a h
 first | refine cEt0 ?_ | refine cE0 ?_
 by_cases h1 : 65536 < s.length
 · repeat refine cS0 ?_
   refine cR0 ?_
   refine sM0 hF h rfl rfl (by decide) ?_
   clear h; intro a h
   (first | (refine i_len hF h rfl rfl (by decide) ?_) | (refine i_lenS hF h rfl rfl (by decide) ?_))
   clear h; intro a h
   (first | (refine iC0 hF h rfl rfl rfl (i_gtr_t (by omega)) (by decide) ?_) | (refine iC0 hF h rfl rfl rfl (i_gtr_f (by omega)) (by decide) ?_))
   clear h; intro a h
   first | refine cEt0 ?_ | refine cE0 ?_
   repeat refine cS0 ?_
   refine c_condT h rfl ?_
   repeat refine cS0 ?_
   refine cR0 ?_
   refine sA0 hF h rfl rfl (by decide) ?_
   clear h; intro a h
   refine sA0 hF h rfl rfl (by decide) ?_
   clear h; intro a h
   first | refine cEt0 ?_ | refine cE0 ?_
   refine c_ret ?_
   with_reducible repeat (first | refine xa0 ?_ | refine xb0 ?_ | refine xc0 ?_ | refine xd0 ?_ | refine xe0 (by decide) ?_ | refine xf0 ?_ | refine xg0 ?_ | refine xh0 ?_ | refine xi0 ?_)
   refine leave (fn := Tryz.f12) h Tryz.results12 (.tmp rfl (.tmp rfl (.nil))) ?_
   have hp : parse s = .long := by unfold parse; rw [if_pos h1]
   rw [hp]
   exact ⟨_, rfl, _, rfl, GivesRow.of (R := []) (L := []) (RowIs.nil 5 1) rfl H⟩
 by_cases h2 : s = []
 · subst h2
   repeat refine cS0 ?_
   refine cR0 ?_
   refine sM0 hF h rfl rfl (by decide) ?_
   clear h; intro a h
   (first | (refine i_len hF h rfl rfl (by decide) ?_) | (refine i_lenS hF h rfl rfl (by decide) ?_))
   clear h; intro a h
   (first | (refine iC0 hF h rfl rfl rfl (i_gtr_t (by omega)) (by decide) ?_) | (refine iC0 hF h rfl rfl rfl (i_gtr_f (by omega)) (by decide) ?_))
   clear h; intro a h
   first | refine cEt0 ?_ | refine cE0 ?_
   repeat refine cS0 ?_
   refine c_condF h rfl ?_
   first | refine cKt0 ?_ | refine cK0 ?_
   repeat refine cS0 ?_
   refine cR0 ?_
   refine sM0 hF h rfl rfl (by decide) ?_
   clear h; intro a h
   refine i_eqS hF h rfl rfl rfl rfl (by decide) ?_
   clear h; intro a h
   first | refine cEt0 ?_ | refine cE0 ?_
   repeat refine cS0 ?_
   refine c_condT h rfl ?_
   repeat refine cS0 ?_
   refine cR0 ?_
   refine sA0 hF h rfl rfl (by decide) ?_
   clear h; intro a h
   refine sA0 hF h rfl rfl (by decide) ?_
   clear h; intro a h
   first | refine cEt0 ?_ | refine cE0 ?_
   refine c_ret ?_
   with_reducible repeat (first | refine xa0 ?_ | refine xb0 ?_ | refine xc0 ?_ | refine xd0 ?_ | refine xe0 (by decide) ?_ | refine xf0 ?_ | refine xg0 ?_ | refine xh0 ?_ | refine xi0 ?_)
   refine leave (fn := Tryz.f12) h Tryz.results12 (.tmp rfl (.tmp rfl (.nil))) ?_
   exact ⟨_, rfl, _, rfl, GivesRow.of (R := []) (L := []) (RowIs.nil 5 1) rfl H⟩
 repeat refine cS0 ?_
 refine cR0 ?_
 refine sM0 hF h rfl rfl (by decide) ?_
 clear h; intro a h
 (first | (refine i_len hF h rfl rfl (by decide) ?_) | (refine i_lenS hF h rfl rfl (by decide) ?_))
 clear h; intro a h
 (first | (refine iC0 hF h rfl rfl rfl (i_gtr_t (by omega)) (by decide) ?_) | (refine iC0 hF h rfl rfl rfl (i_gtr_f (by omega)) (by decide) ?_))
 clear h; intro a h
 first | refine cEt0 ?_ | refine cE0 ?_
 repeat refine cS0 ?_
 refine c_condF h rfl ?_
 first | refine cKt0 ?_ | refine cK0 ?_
 repeat refine cS0 ?_
 refine cR0 ?_
 refine sM0 hF h rfl rfl (by decide) ?_
 clear h; intro a h
 refine i_eqS hF h rfl rfl rfl (show (s == []) = false from beq_eq_false_iff_ne.2 h2) (by decide) ?_
 clear h; intro a h
 first | refine cEt0 ?_ | refine cE0 ?_
 repeat refine cS0 ?_
 refine c_condF h rfl ?_
 first | refine cKt0 ?_ | refine cK0 ?_
 have hps := parse_split s (by omega) h2
 repeat refine cS0 ?_
 refine cR0 ?_
 refine sM0 hF h rfl rfl (by decide) ?_
 clear h; intro a h
 refine i_call hF h rfl (rsplit_ret s (by omega) _) rfl (by decide) ?_
 clear h; rintro vw w hg a h; obtain ⟨RW, hrw, H2⟩ := H.row hg; replace H := H2; clear H2 hg
 refine sA0 hF h rfl rfl (by decide) ?_
 clear h; intro a h
 first | refine cEt0 ?_ | refine cE0 ?_
 have hwl := split_len s
 have hwm := split_mem s
 obtain ⟨ws, hws⟩ : ∃ ws, ws = split s := ⟨_, rfl⟩
 rw [← hws] at hps hwl hwm hrw
 have hW : ∀ {E : List (Nat × Obj)} {w' : World}, St w0.heap.size w0 (E ++ (RW ++ [])) w' → ES str w' vw ws := fun H' => (ES.row (l := ws) hrw (H'.sub (List.sublist_append_right _ _))).1
 have nope : parseW ws = none → ∀ {L : List (Nat × Obj)} {w' : World}, St w0.heap.size w0 L w' → (∃ u, tupleOf [Value.slice none 0 0, int 200] = .tuple #[u, int (readNo (parse s))] ∧ GivesRow 5 byt (readL (parse s)) w0 u w') := fun hn L w' H' => by
  rw [hps, hn]
  exact ⟨_, rfl, GivesRow.of (R := []) (L := []) (RowIs.nil 5 1) rfl (H'.sub (List.nil_sublist _))⟩
 repeat refine cS0 ?_
 refine cR0 ?_
 refine sA0 hF h rfl rfl (by decide) ?_
 clear h; intro a h
 first | refine cEt0 ?_ | refine cE0 ?_
 repeat refine cS0 ?_
 refine cR0 ?_
 refine sA0 hF h rfl rfl (by decide) ?_
 clear h; intro a h
 first | refine cEt0 ?_ | refine cE0 ?_
 repeat refine cS0 ?_
 refine c_block ?_
 refine c_loopN (fun q a' w' => ∃ i acc u R, q = ws.length - i ∧ i ≤ ws.length ∧ acc.length ≤ 33 * i ∧ parseW ws = (parseW (ws.drop i)).map (acc ++ ·) ∧ RowIs 5 1 u acc.length (acc.map byt) R ∧ Fr 100 [] [(6, int (i : Nat)), (5, u), (4, vw), (0, str s)] a' ∧ St w0.heap.size w0 (R ++ (RW ++ [])) w') ws.length
  ⟨0, [], _, _, rfl, by omega, by simp, by simp, RowIs.nil 5 1, (h.sub (by repeat (first | exact trivial | refine ⟨rfl, ?_⟩))), H⟩ ?_
 clear h H
 rintro q a w ⟨i, acc, u, R, rfl, hi, hacc, hrel, hr, h, H⟩
 by_cases hi1 : i < ws.length
 · repeat refine cS0 ?_
   refine cR0 ?_
   refine sM0 hF h rfl rfl (by decide) ?_
   clear h; intro a h
   refine sM0 hF h rfl rfl (by decide) ?_
   clear h; intro a h
   refine i_lenB hF h rfl rfl (hW H) (by decide) ?_
   clear h; intro a h
   (first | (refine iC0 hF h rfl rfl rfl (i_lss_t (by omega)) (by decide) ?_) | (refine iC0 hF h rfl rfl rfl (i_lss_f (by omega)) (by decide) ?_))
   clear h; intro a h
   first | refine cEt0 ?_ | refine cE0 ?_
   repeat refine cS0 ?_
   refine c_condT h rfl ?_
   first | refine cKt0 ?_ | refine cK0 ?_
   obtain ⟨x, hx⟩ : ∃ x, ws[i]? = some x := ⟨_, List.getElem?_eq_getElem hi1⟩
   have hxl := hwm x (List.mem_of_getElem? hx)
   have hdrop : ws.drop i = x :: ws.drop (i + 1) := by
    rw [List.drop_eq_getElem_cons hi1, (List.getElem?_eq_some_iff.1 hx).2]
   rw [hdrop, parseW] at hrel
   repeat refine cS0 ?_
   refine c_block ?_
   repeat refine cS0 ?_
   refine cR0 ?_
   refine sM0 hF h rfl rfl (by decide) ?_
   clear h; intro a h
   refine sM0 hF h rfl rfl (by decide) ?_
   clear h; intro a h
   refine i_idxB hF h rfl rfl (hW H) rfl hx (by decide) ?_
   clear h; intro be bo a hbe h
   refine i_loadW hF h rfl rfl hbe (by decide) ?_
   clear h; intro a h
   refine i_call hF h rfl (rnamed_ret x _) rfl (by decide) ?_
   clear h; rintro _ w ⟨rfl, hb⟩ a h; replace H := H.call hb; clear hb
   refine sM0 hF h rfl rfl (by decide) ?_
   clear h; intro a h
   refine iX0 hF h rfl rfl rfl (by decide) ?_
   clear h; intro a h
   refine iX0 hF h rfl rfl rfl (by decide) ?_
   clear h; intro a h
   refine sA0 hF h rfl rfl (by decide) ?_
   clear h; intro a h
   refine sA0 hF h rfl rfl (by decide) ?_
   clear h; intro a h
   first | refine cEt0 ?_ | refine cE0 ?_
   cases hn : named x with
   | some op =>
    have hop : op < 256 := (named_info x op hn).1
    rw [hn] at hrel
    dsimp only at hrel
    obtain ⟨b, rfl⟩ : ∃ b : UInt8, b.toNat = op := ⟨UInt8.ofNat op, by simp; omega⟩
    have hbb : UInt8.ofNat b.toNat = b := UInt8.ofNat_toNat
    simp only [hn, Option.getD_some, Option.isSome_some, hbb] at h
    rw [hbb] at hrel
    repeat refine cS0 ?_
    refine cR0 ?_
    refine sM0 hF h rfl rfl (by decide) ?_
    clear h; intro a h
    first | refine cEt0 ?_ | refine cE0 ?_
    repeat refine cS0 ?_
    refine c_condT h rfl ?_
    repeat refine cS0 ?_
    refine cR0 ?_
    refine sM0 hF h rfl rfl (by decide) ?_
    clear h; intro a h
    refine sM0 hF h rfl rfl (by decide) ?_
    clear h; intro a h
    refine i_buildSlice hF h H rfl rfl (by decide) (by decide) rfl (by decide) ?_
    clear h H; intro a w b38 _ h H
    replace H := H.newIn
    refine i_append hF h hr H rfl rfl rfl (m := 1) (news := [byt b]) rfl (cells_own H (by repeat (first | exact mh1 | apply mt1 | apply ma1))) (by simp [Value.oneCell']) (by omega) (by omega) (by decide) ?_
    clear h H; intro a w u' R' hr' H h
    refine sA0 hF h rfl rfl (by decide) ?_
    clear h; intro a h
    first | refine cEt0 ?_ | refine cE0 ?_
    replace H := H.dropIn
    repeat refine cS0 ?_
    refine cR0 ?_
    refine sM0 hF h rfl rfl (by decide) ?_
    clear h; intro a h
    refine i_call hF h rfl (rinfo_ret b _) rfl (by decide) ?_
    clear h; rintro _ w ⟨rfl, hb⟩ a h; replace H := H.call hb; clear hb
    refine i_field hF h rfl rfl (sizeF b) (by decide) ?_
    clear h; intro a h
    refine sA0 hF h rfl rfl (by decide) ?_
    clear h; intro a h
    first | refine cEt0 ?_ | refine cE0 ?_
    by_cases h0 : sz b.toNat = 0
    · rw [if_pos h0] at hrel
      repeat refine cS0 ?_
      refine cR0 ?_
      refine sM0 hF h rfl rfl (by decide) ?_
      clear h; intro a h
      (first | (refine iC0 hF h rfl rfl rfl (i_gtr_t (by omega)) (by decide) ?_) | (refine iC0 hF h rfl rfl rfl (i_gtr_f (by omega)) (by decide) ?_))
      clear h; intro a h
      first | refine cEt0 ?_ | refine cE0 ?_
      repeat refine cS0 ?_
      refine c_condF h rfl ?_
      first | refine cKt0 ?_ | refine cK0 ?_
      refine c_exit ?_
      with_reducible repeat (first | refine xa0 ?_ | refine xb0 ?_ | refine xc0 ?_ | refine xd0 ?_ | refine xe0 (by decide) ?_ | refine xf0 ?_ | refine xg0 ?_ | refine xh0 ?_ | refine xi0 ?_)
      repeat refine cS0 ?_
      refine cR0 ?_
      refine sM0 hF h rfl rfl (by decide) ?_
      clear h; intro a h
      refine i_ar64 hF h rfl rfl rfl rfl (by omega) (by omega) (by decide) ?_
      clear h; intro a h
      refine sA0 hF h rfl rfl (by decide) ?_
      clear h; intro a h
      refine cE0 ?_
      refine ⟨ws.length - (i + 1), by omega, i + 1, acc ++ [b], u', R', rfl, by omega, by simp; omega, ?_, by simpa using hr', (h.sub (by repeat (first | exact trivial | refine ⟨rfl, ?_⟩))), H⟩
      rw [hrel, Option.map_map]
      congr 1
      funext l
      simp
    · rw [if_neg h0] at hrel
      have hs32 := sz_le b.toNat
      repeat refine cS0 ?_
      refine cR0 ?_
      refine sM0 hF h rfl rfl (by decide) ?_
      clear h; intro a h
      (first | (refine iC0 hF h rfl rfl rfl (i_gtr_t (by omega)) (by decide) ?_) | (refine iC0 hF h rfl rfl rfl (i_gtr_f (by omega)) (by decide) ?_))
      clear h; intro a h
      first | refine cEt0 ?_ | refine cE0 ?_
      repeat refine cS0 ?_
      refine c_condT h rfl ?_
      repeat refine cS0 ?_
      refine cR0 ?_
      refine sM0 hF h rfl rfl (by decide) ?_
      clear h; intro a h
      refine i_ar64 hF h rfl rfl rfl rfl (by omega) (by omega) (by decide) ?_
      clear h; intro a h
      refine sA0 hF h rfl rfl (by decide) ?_
      clear h; intro a h
      first | refine cEt0 ?_ | refine cE0 ?_
      by_cases hi3 : i + 1 = ws.length
      · repeat refine cS0 ?_
        refine cR0 ?_
        refine sM0 hF h rfl rfl (by decide) ?_
        clear h; intro a h
        refine sM0 hF h rfl rfl (by decide) ?_
        clear h; intro a h
        refine i_lenB hF h rfl rfl (hW H) (by decide) ?_
        clear h; intro a h
        (first | (refine iC0 hF h rfl rfl rfl (i_eql_t (by omega)) (by decide) ?_) | (refine iC0 hF h rfl rfl rfl (i_eql_f (by omega)) (by decide) ?_))
        clear h; intro a h
        first | refine cEt0 ?_ | refine cE0 ?_
        repeat refine cS0 ?_
        refine c_condT h rfl ?_
        repeat refine cS0 ?_
        refine cR0 ?_
        refine sA0 hF h rfl rfl (by decide) ?_
        clear h; intro a h
        refine sA0 hF h rfl rfl (by decide) ?_
        clear h; intro a h
        first | refine cEt0 ?_ | refine cE0 ?_
        refine c_ret ?_
        with_reducible repeat (first | refine xa0 ?_ | refine xb0 ?_ | refine xc0 ?_ | refine xd0 ?_ | refine xe0 (by decide) ?_ | refine xf0 ?_ | refine xg0 ?_ | refine xh0 ?_ | refine xi0 ?_)
        refine leave (fn := Tryz.f12) h Tryz.results12 (.tmp rfl (.tmp rfl (.nil))) ?_
        rw [List.drop_of_length_le (by omega)] at hrel
        exact ⟨_, rfl, nope (by rw [hrel]; rfl) H⟩
      repeat refine cS0 ?_
      refine cR0 ?_
      refine sM0 hF h rfl rfl (by decide) ?_
      clear h; intro a h
      refine sM0 hF h rfl rfl (by decide) ?_
      clear h; intro a h
      refine i_lenB hF h rfl rfl (hW H) (by decide) ?_
      clear h; intro a h
      (first | (refine iC0 hF h rfl rfl rfl (i_eql_t (by omega)) (by decide) ?_) | (refine iC0 hF h rfl rfl rfl (i_eql_f (by omega)) (by decide) ?_))
      clear h; intro a h
      first | refine cEt0 ?_ | refine cE0 ?_
      repeat refine cS0 ?_
      refine c_condF h rfl ?_
      first | refine cKt0 ?_ | refine cK0 ?_
      obtain ⟨y, hy⟩ : ∃ y, ws[i + 1]? = some y := ⟨_, List.getElem?_eq_getElem (by omega)⟩
      have hyl := hwm y (List.mem_of_getElem? hy)
      have hdrop2 : ws.drop (i + 1) = y :: ws.drop (i + 2) := by
       rw [List.drop_eq_getElem_cons (show i + 1 < ws.length by omega), (List.getElem?_eq_some_iff.1 hy).2]
      rw [hdrop2] at hrel
      dsimp only at hrel
      unfold bytesOf at hrel
      repeat refine cS0 ?_
      refine cR0 ?_
      refine sM0 hF h rfl rfl (by decide) ?_
      clear h; intro a h
      refine sM0 hF h rfl rfl (by decide) ?_
      clear h; intro a h
      rw [show (i : Int) + 1 = ((i + 1 : Nat) : Int) by omega] at h
      refine i_idxB hF h rfl rfl (hW H) rfl hy (by decide) ?_
      clear h; intro be bo a hbe h
      refine i_loadW hF h rfl rfl hbe (by decide) ?_
      clear h; intro a h
      refine i_call hF h rfl (runhex_ret y (by omega) _) rfl (by decide) ?_
      clear h; rintro _ w ⟨ub, rfl, hg⟩ a h; obtain ⟨RB, hrb, H2⟩ := H.row hg; replace H := H2; clear H2 hg
      refine sM0 hF h rfl rfl (by decide) ?_
      clear h; intro a h
      refine iX0 hF h rfl rfl rfl (by decide) ?_
      clear h; intro a h
      refine iX0 hF h rfl rfl rfl (by decide) ?_
      clear h; intro a h
      refine sA0 hF h rfl rfl (by decide) ?_
      clear h; intro a h
      refine sA0 hF h rfl rfl (by decide) ?_
      clear h; intro a h
      first | refine cEt0 ?_ | refine cE0 ?_
      cases hu : unhex y with
      | none =>
       simp only [hu, Option.isSome_none, Option.getD_none] at h hrb
       rw [hu] at hrel
       repeat refine cS0 ?_
       refine cR0 ?_
       refine sM0 hF h rfl rfl (by decide) ?_
       clear h; intro a h
       refine i_not hF h rfl rfl (by decide) ?_
       clear h; intro a h; try simp only [Bool.not_false] at h
       refine sM0 hF h rfl rfl (by decide) ?_
       clear h; intro a h
       first | (refine sK0 hF h rfl (by decide) ?_; clear h; intro a h) | (refine sM0 hF h rfl rfl (by decide) ?_; clear h; intro a h)
       first | (refine sK0 hF h rfl (by decide) ?_; clear h; intro a h) | (refine i_lenB hF h rfl rfl (ES.row hrb H).1 (by decide) ?_; clear h; intro a h)
       first | (refine sK0 hF h rfl (by decide) ?_; clear h; intro a h) | (refine sM0 hF h rfl rfl (by decide) ?_; clear h; intro a h)
       first | (refine sK0 hF h rfl (by decide) ?_; clear h; intro a h) | ((first | (refine iC0 hF h rfl rfl rfl (i_neq_t (by omega)) (by decide) ?_) | (refine iC0 hF h rfl rfl rfl (i_neq_f (by omega)) (by decide) ?_)); clear h; intro a h)
       refine s_pick hF h rfl rfl rfl (by decide) ?_
       clear h; intro a h
       first | refine cEt0 ?_ | refine cE0 ?_
       repeat refine cS0 ?_
       refine c_condT h rfl ?_
       repeat refine cS0 ?_
       refine cR0 ?_
       refine sA0 hF h rfl rfl (by decide) ?_
       clear h; intro a h
       refine sA0 hF h rfl rfl (by decide) ?_
       clear h; intro a h
       first | refine cEt0 ?_ | refine cE0 ?_
       refine c_ret ?_
       with_reducible repeat (first | refine xa0 ?_ | refine xb0 ?_ | refine xc0 ?_ | refine xd0 ?_ | refine xe0 (by decide) ?_ | refine xf0 ?_ | refine xg0 ?_ | refine xh0 ?_ | refine xi0 ?_)
       refine leave (fn := Tryz.f12) h Tryz.results12 (.tmp rfl (.tmp rfl (.nil))) ?_
       exact ⟨_, rfl, nope (by rw [hrel]; rfl) H⟩
      | some bs =>
       simp only [hu, Option.isSome_some, Option.getD_some] at h hrb
       rw [hu] at hrel
       dsimp only at hrel
       by_cases hbl : bs.length = sz b.toNat
       · rw [if_pos hbl] at hrel
         repeat refine cS0 ?_
         refine cR0 ?_
         refine sM0 hF h rfl rfl (by decide) ?_
         clear h; intro a h
         refine i_not hF h rfl rfl (by decide) ?_
         clear h; intro a h; try simp only [Bool.not_true] at h
         refine sM0 hF h rfl rfl (by decide) ?_
         clear h; intro a h
         first | (refine sK0 hF h rfl (by decide) ?_; clear h; intro a h) | (refine sM0 hF h rfl rfl (by decide) ?_; clear h; intro a h)
         first | (refine sK0 hF h rfl (by decide) ?_; clear h; intro a h) | (refine i_lenB hF h rfl rfl (ES.row hrb H).1 (by decide) ?_; clear h; intro a h)
         first | (refine sK0 hF h rfl (by decide) ?_; clear h; intro a h) | (refine sM0 hF h rfl rfl (by decide) ?_; clear h; intro a h)
         first | (refine sK0 hF h rfl (by decide) ?_; clear h; intro a h) | ((first | (refine iC0 hF h rfl rfl rfl (i_neq_t (by omega)) (by decide) ?_) | (refine iC0 hF h rfl rfl rfl (i_neq_f (by omega)) (by decide) ?_)); clear h; intro a h)
         refine s_pick hF h rfl rfl rfl (by decide) ?_
         clear h; intro a h
         first | refine cEt0 ?_ | refine cE0 ?_
         repeat refine cS0 ?_
         refine c_condF h rfl ?_
         first | refine cKt0 ?_ | refine cK0 ?_
         repeat refine cS0 ?_
         refine cR0 ?_
         refine sM0 hF h rfl rfl (by decide) ?_
         clear h; intro a h
         refine sM0 hF h rfl rfl (by decide) ?_
         clear h; intro a h
         have hEB := (ES.row hrb H).1; replace H := H.swap (E := RB)
         refine i_appendE hF h hr' H rfl rfl rfl hEB (by omega) (fun _ => rfl) (by omega) (by omega) (by decide) ?_
         clear h H; intro a w u2 R2 hr2 H h
         refine sA0 hF h rfl rfl (by decide) ?_
         clear h; intro a h
         refine cE0 ?_
         refine c_exit ?_
         with_reducible repeat (first | refine xa0 ?_ | refine xb0 ?_ | refine xc0 ?_ | refine xd0 ?_ | refine xe0 (by decide) ?_ | refine xf0 ?_ | refine xg0 ?_ | refine xh0 ?_ | refine xi0 ?_)
         replace H : St w0.heap.size w0 (R2 ++ (RW ++ [])) w := H.sub (.append (.refl _) (List.sublist_append_right _ _))
         repeat refine cS0 ?_
         refine cR0 ?_
         refine sM0 hF h rfl rfl (by decide) ?_
         clear h; intro a h
         refine i_ar64 hF h rfl rfl rfl rfl (by omega) (by omega) (by decide) ?_
         clear h; intro a h
         refine sA0 hF h rfl rfl (by decide) ?_
         clear h; intro a h
         refine cE0 ?_
         refine ⟨ws.length - (i + 1 + 1), by omega, i + 1 + 1, acc ++ [b] ++ bs, u2, R2, rfl, by omega, by simp; omega, ?_, by simpa [hbl, Nat.add_assoc, Nat.add_comm 1] using hr2, (h.sub (by repeat (first | exact trivial | refine ⟨rfl, ?_⟩))), H⟩
         rw [hrel]
         dsimp only
         rw [Option.map_map]
         congr 1
         funext l
         simp
       · rw [if_neg hbl] at hrel
         repeat refine cS0 ?_
         refine cR0 ?_
         refine sM0 hF h rfl rfl (by decide) ?_
         clear h; intro a h
         refine i_not hF h rfl rfl (by decide) ?_
         clear h; intro a h; try simp only [Bool.not_true] at h
         refine sM0 hF h rfl rfl (by decide) ?_
         clear h; intro a h
         first | (refine sK0 hF h rfl (by decide) ?_; clear h; intro a h) | (refine sM0 hF h rfl rfl (by decide) ?_; clear h; intro a h)
         first | (refine sK0 hF h rfl (by decide) ?_; clear h; intro a h) | (refine i_lenB hF h rfl rfl (ES.row hrb H).1 (by decide) ?_; clear h; intro a h)
         first | (refine sK0 hF h rfl (by decide) ?_; clear h; intro a h) | (refine sM0 hF h rfl rfl (by decide) ?_; clear h; intro a h)
         first | (refine sK0 hF h rfl (by decide) ?_; clear h; intro a h) | ((first | (refine iC0 hF h rfl rfl rfl (i_neq_t (by omega)) (by decide) ?_) | (refine iC0 hF h rfl rfl rfl (i_neq_f (by omega)) (by decide) ?_)); clear h; intro a h)
         refine s_pick hF h rfl rfl rfl (by decide) ?_
         clear h; intro a h
         first | refine cEt0 ?_ | refine cE0 ?_
         repeat refine cS0 ?_
         refine c_condT h rfl ?_
         repeat refine cS0 ?_
         refine cR0 ?_
         refine sA0 hF h rfl rfl (by decide) ?_
         clear h; intro a h
         refine sA0 hF h rfl rfl (by decide) ?_
         clear h; intro a h
         first | refine cEt0 ?_ | refine cE0 ?_
         refine c_ret ?_
         with_reducible repeat (first | refine xa0 ?_ | refine xb0 ?_ | refine xc0 ?_ | refine xd0 ?_ | refine xe0 (by decide) ?_ | refine xf0 ?_ | refine xg0 ?_ | refine xh0 ?_ | refine xi0 ?_)
         refine leave (fn := Tryz.f12) h Tryz.results12 (.tmp rfl (.tmp rfl (.nil))) ?_
         exact ⟨_, rfl, nope (by rw [hrel]; rfl) H⟩
   | none =>
    rw [hn] at hrel
    dsimp only at hrel
    unfold bytesOf at hrel
    simp only [hn, Option.getD_none, Option.isSome_none] at h
    repeat refine cS0 ?_
    refine cR0 ?_
    refine sM0 hF h rfl rfl (by decide) ?_
    clear h; intro a h
    first | refine cEt0 ?_ | refine cE0 ?_
    repeat refine cS0 ?_
    refine c_condF h rfl ?_
    first | refine cKt0 ?_ | refine cK0 ?_
    repeat refine cS0 ?_
    refine cR0 ?_
    refine sM0 hF h rfl rfl (by decide) ?_
    clear h; intro a h
    refine sM0 hF h rfl rfl (by decide) ?_
    clear h; intro a h
    refine i_idxB hF h rfl rfl (hW H) rfl hx (by decide) ?_
    clear h; intro be bo a hbe h
    refine i_loadW hF h rfl rfl hbe (by decide) ?_
    clear h; intro a h
    refine i_call hF h rfl (runhex_ret x (by omega) _) rfl (by decide) ?_
    clear h; rintro _ w ⟨ub, rfl, hg⟩ a h; obtain ⟨RB, hrb, H2⟩ := H.row hg; replace H := H2; clear H2 hg
    refine sM0 hF h rfl rfl (by decide) ?_
    clear h; intro a h
    refine iX0 hF h rfl rfl rfl (by decide) ?_
    clear h; intro a h
    refine iX0 hF h rfl rfl rfl (by decide) ?_
    clear h; intro a h
    refine sA0 hF h rfl rfl (by decide) ?_
    clear h; intro a h
    refine sA0 hF h rfl rfl (by decide) ?_
    clear h; intro a h
    first | refine cEt0 ?_ | refine cE0 ?_
    cases hu : unhex x with
    | none =>
     simp only [hu, Option.isSome_none, Option.getD_none] at h hrb
     rw [hu] at hrel
     repeat refine cS0 ?_
     refine cR0 ?_
     refine sM0 hF h rfl rfl (by decide) ?_
     clear h; intro a h
     refine i_not hF h rfl rfl (by decide) ?_
     clear h; intro a h; try simp only [Bool.not_false] at h
     refine sM0 hF h rfl rfl (by decide) ?_
     clear h; intro a h
     first | (refine sK0 hF h rfl (by decide) ?_; clear h; intro a h) | (refine sM0 hF h rfl rfl (by decide) ?_; clear h; intro a h)
     first | (refine sK0 hF h rfl (by decide) ?_; clear h; intro a h) | (refine i_lenB hF h rfl rfl (ES.row hrb H).1 (by decide) ?_; clear h; intro a h)
     first | (refine sK0 hF h rfl (by decide) ?_; clear h; intro a h) | ((first | (refine iC0 hF h rfl rfl rfl (i_neq_t (by omega)) (by decide) ?_) | (refine iC0 hF h rfl rfl rfl (i_neq_f (by omega)) (by decide) ?_)); clear h; intro a h)
     refine s_pick hF h rfl rfl rfl (by decide) ?_
     clear h; intro a h
     refine sM0 hF h rfl rfl (by decide) ?_
     clear h; intro a h
     first | (refine sK0 hF h rfl (by decide) ?_; clear h; intro a h) | (refine sM0 hF h rfl rfl (by decide) ?_; clear h; intro a h)
     first | (refine sK0 hF h rfl (by decide) ?_; clear h; intro a h) | (refine i_idxB hF h rfl rfl (ES.row hrb H).1 rfl hb0 (by decide) ?_; clear h; intro be bo a hbe h)
     first | (refine sK0 hF h rfl (by decide) ?_; clear h; intro a h) | (refine i_loadW hF h rfl rfl hbe (by decide) ?_; clear h; intro a h)
     first | (refine sK0 hF h rfl (by decide) ?_; clear h; intro a h) | (refine i_call hF h rfl (rinfo_ret b _) rfl (by decide) ?_; clear h; rintro _ w ⟨rfl, hb⟩ a h; replace H := H.call hb; clear hb)
     first | (refine sK0 hF h rfl (by decide) ?_; clear h; intro a h) | (refine i_field hF h rfl rfl rfl (by decide) ?_; clear h; intro a h)
     first | (refine sK0 hF h rfl (by decide) ?_; clear h; intro a h) | (refine i_neS hF h rfl rfl rfl rfl (by decide) ?_; clear h; intro a h)
     refine s_pick hF h rfl rfl rfl (by decide) ?_
     clear h; intro a h
     first | refine cEt0 ?_ | refine cE0 ?_
     repeat refine cS0 ?_
     refine c_condT h rfl ?_
     repeat refine cS0 ?_
     refine cR0 ?_
     refine sA0 hF h rfl rfl (by decide) ?_
     clear h; intro a h
     refine sA0 hF h rfl rfl (by decide) ?_
     clear h; intro a h
     first | refine cEt0 ?_ | refine cE0 ?_
     refine c_ret ?_
     with_reducible repeat (first | refine xa0 ?_ | refine xb0 ?_ | refine xc0 ?_ | refine xd0 ?_ | refine xe0 (by decide) ?_ | refine xf0 ?_ | refine xg0 ?_ | refine xh0 ?_ | refine xi0 ?_)
     refine leave (fn := Tryz.f12) h Tryz.results12 (.tmp rfl (.tmp rfl (.nil))) ?_
     exact ⟨_, rfl, nope (by rw [hrel]; rfl) H⟩
    | some bs =>
     simp only [hu, Option.isSome_some, Option.getD_some] at h hrb
     rw [hu] at hrel
     dsimp only at hrel
     by_cases hbl : bs.length = 1
     · obtain ⟨b, rfl⟩ : ∃ b, bs = [b] := by
        cases bs with
        | nil => simp at hbl
        | cons b r => cases r with
         | nil => exact ⟨b, rfl⟩
         | cons _ _ => simp at hbl
       have hb0 : [b][0]? = some b := rfl
       rw [if_pos (show [b].length = 1 from rfl)] at hrel
       dsimp only at hrel
       cases hk : info b.toNat with
       | some y =>
        have hy := name_plain b.toNat y b.toNat_lt hk
        simp only [Bool.and_eq_true, decide_eq_true_eq] at hy
        rw [hk] at hrel
        repeat refine cS0 ?_
        refine cR0 ?_
        refine sM0 hF h rfl rfl (by decide) ?_
        clear h; intro a h
        refine i_not hF h rfl rfl (by decide) ?_
        clear h; intro a h; try simp only [Bool.not_true] at h
        refine sM0 hF h rfl rfl (by decide) ?_
        clear h; intro a h
        first | (refine sK0 hF h rfl (by decide) ?_; clear h; intro a h) | (refine sM0 hF h rfl rfl (by decide) ?_; clear h; intro a h)
        first | (refine sK0 hF h rfl (by decide) ?_; clear h; intro a h) | (refine i_lenB hF h rfl rfl (ES.row hrb H).1 (by decide) ?_; clear h; intro a h)
        first | (refine sK0 hF h rfl (by decide) ?_; clear h; intro a h) | ((first | (refine iC0 hF h rfl rfl rfl (i_neq_t (by omega)) (by decide) ?_) | (refine iC0 hF h rfl rfl rfl (i_neq_f (by omega)) (by decide) ?_)); clear h; intro a h)
        refine s_pick hF h rfl rfl rfl (by decide) ?_
        clear h; intro a h
        refine sM0 hF h rfl rfl (by decide) ?_
        clear h; intro a h
        first | (refine sK0 hF h rfl (by decide) ?_; clear h; intro a h) | (refine sM0 hF h rfl rfl (by decide) ?_; clear h; intro a h)
        first | (refine sK0 hF h rfl (by decide) ?_; clear h; intro a h) | (refine i_idxB hF h rfl rfl (ES.row hrb H).1 rfl hb0 (by decide) ?_; clear h; intro be bo a hbe h)
        first | (refine sK0 hF h rfl (by decide) ?_; clear h; intro a h) | (refine i_loadW hF h rfl rfl hbe (by decide) ?_; clear h; intro a h)
        first | (refine sK0 hF h rfl (by decide) ?_; clear h; intro a h) | (refine i_call hF h rfl (rinfo_ret b _) rfl (by decide) ?_; clear h; rintro _ w ⟨rfl, hb⟩ a h; replace H := H.call hb; clear hb)
        first | (refine sK0 hF h rfl (by decide) ?_; clear h; intro a h) | (refine i_field (v := str y.1) hF h rfl rfl (by rw [hk]; rfl) (by decide) ?_; clear h; intro a h)
        first | (refine sK0 hF h rfl (by decide) ?_; clear h; intro a h) | (refine i_neS hF h rfl rfl rfl (show (!(y.1 == [])) = true by simp; intro e; rw [e] at hy; simp at hy) (by decide) ?_; clear h; intro a h)
        refine s_pick hF h rfl rfl rfl (by decide) ?_
        clear h; intro a h
        first | refine cEt0 ?_ | refine cE0 ?_
        repeat refine cS0 ?_
        refine c_condT h rfl ?_
        repeat refine cS0 ?_
        refine cR0 ?_
        refine sA0 hF h rfl rfl (by decide) ?_
        clear h; intro a h
        refine sA0 hF h rfl rfl (by decide) ?_
        clear h; intro a h
        first | refine cEt0 ?_ | refine cE0 ?_
        refine c_ret ?_
        with_reducible repeat (first | refine xa0 ?_ | refine xb0 ?_ | refine xc0 ?_ | refine xd0 ?_ | refine xe0 (by decide) ?_ | refine xf0 ?_ | refine xg0 ?_ | refine xh0 ?_ | refine xi0 ?_)
        refine leave (fn := Tryz.f12) h Tryz.results12 (.tmp rfl (.tmp rfl (.nil))) ?_
        exact ⟨_, rfl, nope (by rw [hrel]; rfl) H⟩
       | none =>
        rw [hk] at hrel
        repeat refine cS0 ?_
        refine cR0 ?_
        refine sM0 hF h rfl rfl (by decide) ?_
        clear h; intro a h
        refine i_not hF h rfl rfl (by decide) ?_
        clear h; intro a h; try simp only [Bool.not_true] at h
        refine sM0 hF h rfl rfl (by decide) ?_
        clear h; intro a h
        first | (refine sK0 hF h rfl (by decide) ?_; clear h; intro a h) | (refine sM0 hF h rfl rfl (by decide) ?_; clear h; intro a h)
        first | (refine sK0 hF h rfl (by decide) ?_; clear h; intro a h) | (refine i_lenB hF h rfl rfl (ES.row hrb H).1 (by decide) ?_; clear h; intro a h)
        first | (refine sK0 hF h rfl (by decide) ?_; clear h; intro a h) | ((first | (refine iC0 hF h rfl rfl rfl (i_neq_t (by omega)) (by decide) ?_) | (refine iC0 hF h rfl rfl rfl (i_neq_f (by omega)) (by decide) ?_)); clear h; intro a h)
        refine s_pick hF h rfl rfl rfl (by decide) ?_
        clear h; intro a h
        refine sM0 hF h rfl rfl (by decide) ?_
        clear h; intro a h
        first | (refine sK0 hF h rfl (by decide) ?_; clear h; intro a h) | (refine sM0 hF h rfl rfl (by decide) ?_; clear h; intro a h)
        first | (refine sK0 hF h rfl (by decide) ?_; clear h; intro a h) | (refine i_idxB hF h rfl rfl (ES.row hrb H).1 rfl hb0 (by decide) ?_; clear h; intro be bo a hbe h)
        first | (refine sK0 hF h rfl (by decide) ?_; clear h; intro a h) | (refine i_loadW hF h rfl rfl hbe (by decide) ?_; clear h; intro a h)
        first | (refine sK0 hF h rfl (by decide) ?_; clear h; intro a h) | (refine i_call hF h rfl (rinfo_ret b _) rfl (by decide) ?_; clear h; rintro _ w ⟨rfl, hb⟩ a h; replace H := H.call hb; clear hb)
        first | (refine sK0 hF h rfl (by decide) ?_; clear h; intro a h) | (refine i_field (v := str []) hF h rfl rfl (by rw [hk]; rfl) (by decide) ?_; clear h; intro a h)
        first | (refine sK0 hF h rfl (by decide) ?_; clear h; intro a h) | (refine i_neS hF h rfl rfl rfl rfl (by decide) ?_; clear h; intro a h)
        refine s_pick hF h rfl rfl rfl (by decide) ?_
        clear h; intro a h
        first | refine cEt0 ?_ | refine cE0 ?_
        repeat refine cS0 ?_
        refine c_condF h rfl ?_
        first | refine cKt0 ?_ | refine cK0 ?_
        repeat refine cS0 ?_
        refine cR0 ?_
        refine sM0 hF h rfl rfl (by decide) ?_
        clear h; intro a h
        refine sM0 hF h rfl rfl (by decide) ?_
        clear h; intro a h
        refine i_idxB hF h rfl rfl (ES.row hrb H).1 rfl hb0 (by decide) ?_
        clear h; intro be bo a hbe h
        refine i_loadW hF h rfl rfl hbe (by decide) ?_
        clear h; intro a h
        refine i_buildSlice hF h H rfl rfl (by decide) (by decide) rfl (by decide) ?_
        clear h H; intro a w b97 _ h H
        replace H := St.swap (E := (b97, _) :: RB) H
        refine i_append hF h hr H rfl rfl rfl (m := 1) (news := [byt b]) rfl (cells_own H (by repeat (first | exact mh1 | apply mt1 | apply ma1))) (by simp [Value.oneCell']) (by omega) (by omega) (by decide) ?_
        clear h H; intro a w u' R' hr' H h
        refine sA0 hF h rfl rfl (by decide) ?_
        clear h; intro a h
        refine cE0 ?_
        with_reducible repeat (first | refine xa0 ?_ | refine xb0 ?_ | refine xc0 ?_ | refine xd0 ?_ | refine xe0 (by decide) ?_ | refine xf0 ?_ | refine xg0 ?_ | refine xh0 ?_ | refine xi0 ?_)
        replace H : St w0.heap.size w0 (R' ++ (RW ++ [])) w := H.sub (.append (.refl _) (.cons _ (List.sublist_append_right _ _)))
        repeat refine cS0 ?_
        refine cR0 ?_
        refine sM0 hF h rfl rfl (by decide) ?_
        clear h; intro a h
        refine i_ar64 hF h rfl rfl rfl rfl (by omega) (by omega) (by decide) ?_
        clear h; intro a h
        refine sA0 hF h rfl rfl (by decide) ?_
        clear h; intro a h
        refine cE0 ?_
        refine ⟨ws.length - (i + 1), by omega, i + 1, acc ++ [b], u', R', rfl, by omega, by simp; omega, ?_, by simpa using hr', (h.sub (by repeat (first | exact trivial | refine ⟨rfl, ?_⟩))), H⟩
        rw [hrel]
        simp only [Option.isSome_none, Bool.false_eq_true, if_false]
        rw [Option.map_map]
        congr 1
        funext l
        simp
     · rw [if_neg hbl] at hrel
       repeat refine cS0 ?_
       refine cR0 ?_
       refine sM0 hF h rfl rfl (by decide) ?_
       clear h; intro a h
       refine i_not hF h rfl rfl (by decide) ?_
       clear h; intro a h; try simp only [Bool.not_true] at h
       refine sM0 hF h rfl rfl (by decide) ?_
       clear h; intro a h
       first | (refine sK0 hF h rfl (by decide) ?_; clear h; intro a h) | (refine sM0 hF h rfl rfl (by decide) ?_; clear h; intro a h)
       first | (refine sK0 hF h rfl (by decide) ?_; clear h; intro a h) | (refine i_lenB hF h rfl rfl (ES.row hrb H).1 (by decide) ?_; clear h; intro a h)
       first | (refine sK0 hF h rfl (by decide) ?_; clear h; intro a h) | ((first | (refine iC0 hF h rfl rfl rfl (i_neq_t (by omega)) (by decide) ?_) | (refine iC0 hF h rfl rfl rfl (i_neq_f (by omega)) (by decide) ?_)); clear h; intro a h)
       refine s_pick hF h rfl rfl rfl (by decide) ?_
       clear h; intro a h
       refine sM0 hF h rfl rfl (by decide) ?_
       clear h; intro a h
       first | (refine sK0 hF h rfl (by decide) ?_; clear h; intro a h) | (refine sM0 hF h rfl rfl (by decide) ?_; clear h; intro a h)
       first | (refine sK0 hF h rfl (by decide) ?_; clear h; intro a h) | (refine i_idxB hF h rfl rfl (ES.row hrb H).1 rfl hb0 (by decide) ?_; clear h; intro be bo a hbe h)
       first | (refine sK0 hF h rfl (by decide) ?_; clear h; intro a h) | (refine i_loadW hF h rfl rfl hbe (by decide) ?_; clear h; intro a h)
       first | (refine sK0 hF h rfl (by decide) ?_; clear h; intro a h) | (refine i_call hF h rfl (rinfo_ret b _) rfl (by decide) ?_; clear h; rintro _ w ⟨rfl, hb⟩ a h; replace H := H.call hb; clear hb)
       first | (refine sK0 hF h rfl (by decide) ?_; clear h; intro a h) | (refine i_field (v := str []) hF h rfl rfl (by rw [hk]; rfl) (by decide) ?_; clear h; intro a h)
       first | (refine sK0 hF h rfl (by decide) ?_; clear h; intro a h) | (refine i_neS hF h rfl rfl rfl rfl (by decide) ?_; clear h; intro a h)
       refine s_pick hF h rfl rfl rfl (by decide) ?_
       clear h; intro a h
       first | refine cEt0 ?_ | refine cE0 ?_
       repeat refine cS0 ?_
       refine c_condT h rfl ?_
       repeat refine cS0 ?_
       refine cR0 ?_
       refine sA0 hF h rfl rfl (by decide) ?_
       clear h; intro a h
       refine sA0 hF h rfl rfl (by decide) ?_
       clear h; intro a h
       first | refine cEt0 ?_ | refine cE0 ?_
       refine c_ret ?_
       with_reducible repeat (first | refine xa0 ?_ | refine xb0 ?_ | refine xc0 ?_ | refine xd0 ?_ | refine xe0 (by decide) ?_ | refine xf0 ?_ | refine xg0 ?_ | refine xh0 ?_ | refine xi0 ?_)
       refine leave (fn := Tryz.f12) h Tryz.results12 (.tmp rfl (.tmp rfl (.nil))) ?_
       exact ⟨_, rfl, nope (by rw [hrel]; rfl) H⟩
 · repeat refine cS0 ?_
   refine cR0 ?_
   refine sM0 hF h rfl rfl (by decide) ?_
   clear h; intro a h
   refine sM0 hF h rfl rfl (by decide) ?_
   clear h; intro a h
   refine i_lenB hF h rfl rfl (hW H) (by decide) ?_
   clear h; intro a h
   (first | (refine iC0 hF h rfl rfl rfl (i_lss_t (by omega)) (by decide) ?_) | (refine iC0 hF h rfl rfl rfl (i_lss_f (by omega)) (by decide) ?_))
   clear h; intro a h
   first | refine cEt0 ?_ | refine cE0 ?_
   repeat refine cS0 ?_
   refine c_condF h rfl ?_
   refine c_exit ?_
   with_reducible repeat (first | refine xa0 ?_ | refine xb0 ?_ | refine xc0 ?_ | refine xd0 ?_ | refine xe0 (by decide) ?_ | refine xf0 ?_ | refine xg0 ?_ | refine xh0 ?_ | refine xi0 ?_)
   rw [List.drop_of_length_le (by omega), parseW] at hrel
   have e : parse s = .code acc := by
    rw [hps, hrel]; simp
   repeat refine cS0 ?_
   refine cR0 ?_
   refine sM0 hF h rfl rfl (by decide) ?_
   clear h; intro a h
   refine sA0 hF h rfl rfl (by decide) ?_
   clear h; intro a h
   refine sA0 hF h rfl rfl (by decide) ?_
   clear h; intro a h
   first | refine cEt0 ?_ | refine cE0 ?_
   refine c_ret ?_
   with_reducible repeat (first | refine xa0 ?_ | refine xb0 ?_ | refine xc0 ?_ | refine xd0 ?_ | refine xe0 (by decide) ?_ | refine xf0 ?_ | refine xg0 ?_ | refine xh0 ?_ | refine xi0 ?_)
   refine leave (fn := Tryz.f12) h Tryz.results12 (.tmp rfl (.tmp rfl (.nil))) ?_
   rw [e]
   exact ⟨_, rfl, u, rfl, GivesRow.of (L := RW ++ []) hr rfl H⟩
end Go.Proofs.YtjlmpghcjgbfjaaGreatDoor.Cw
namespace Go.Proofs.YtjlmpghcjgbfjaaGreatDoor.Cw
open Go Go.RowKit Go.Proofs Ex Cd
set_option maxRecDepth 100000
theorem zero5 : ∀ z : Value, zeroOf Tryz.prog 5 = some z → z = .int .u8 0 := by
 intro z hz
 have : zeroOf Tryz.prog 5 = some (.int .u8 0) := by kernel_rfl
 rw [this] at hz
 cases hz
 rfl
theorem getD_named (x : List UInt8) : ((named x).map fun op => byt (UInt8.ofNat op)).getD (.int .u8 0) = byt (UInt8.ofNat ((named x).getD 0)) := by
 cases named x <;> rfl
theorem row_slice {e : TypeId} {sz : Nat} {v : Value} {n : Nat} {xs : List Value} {R : List (Nat × Obj)} (h : RowIs e sz v n xs R) : ∃ p k c, v = .slice p k c := by
 rcases h.2 with ⟨rfl, _⟩ | ⟨b, cap, junk, rfl, _⟩ <;> exact ⟨_, _, _, rfl⟩
/-- the cells of the results -/
theorem swap2 {n0 : Nat} {w0 w : World} {E1 E2 R X : List (Nat × Obj)} (H : St n0 w0 (E1 ++ (E2 ++ (R ++ X))) w) : St n0 w0 (R ++ ((E1 ++ E2) ++ X)) w := St.swap (by rw [List.append_assoc]; exact H)
theorem back2 {n0 : Nat} {w0 w : World} {x : Nat × Obj} {E1 R X : List (Nat × Obj)} (H : St n0 w0 (R ++ ((E1 ++ [x]) ++ X)) w) : St n0 w0 ([x] ++ (R ++ X)) w :=
 (St.swap (E := R) (R := E1 ++ [x]) H).sub (by rw [List.append_assoc]; exact List.sublist_append_of_sublist_right (.refl _))
abbrev outs (bn b3 b2 : Nat) (Nn : Ents (List UInt8)) (cn : Nat) (u : Value) : List (Nat × Obj) := [(bn, mapObj str Nn cn), (b3, .cells [int 0].toArray 31 (0, 0)), (b2, .cells [u].toArray 22 (0, 0))]
def dfrd (b2 b3 : Nat) : Deferred := { target := .fn (.func 27) #[], args := [ptr b3 0, .func (.func 28) #[] #[ptr b2 0]].toArray }
def ParseR (s : List UInt8) (w0 : World) : Ending → World → Prop := fun e w' => ∃ v, e = .returned v ∧ ∃ u, v = .tuple #[u, int (readNo (parse s))] ∧ GivesRow 5 byt (readL (parse s)) w0 u w'
theorem bail {s : List UInt8} {w0 : World} {b2 b3 : Nat} {T : List (Nat × Value)} {a : Act} {w : World} {u : Value} {z e : Int} {L X : List (Nat × Obj)} (h : Fr 92 [dfrd b2 b3] T a) (h2 : get 2 T = some (ptr b2 0)) (h3 : get 3 T = some (ptr b3 0))
 (H : St w0.heap.size w0 L w) (hp : ((b3, .cells [int z].toArray 31 (0, 0)) :: (b2, .cells [u].toArray 22 (0, 0)) :: X).Sublist L) (he : readNo (parse s) = e) (hl : readL (parse s) = []) : bodyPostD Tryz.prog Tryz.f11 (ParseR s w0) (.panic (gave e)) a w := by
 refine leaveDP h Tryz.results11 (catch_bad (H.sub hp)) (fun w' H' => .own h2 H' (by repeat (first | exact mh1 | apply mt1 | apply ma1)) rfl (.own h3 H' (by repeat (first | exact mh1 | apply mt1 | apply ma1)) rfl .nil)) (fun w' H' => ?_)
 refine ⟨_, rfl, _, by rw [he]; rfl, ?_⟩
 rw [hl]
 exact GivesRow.of (R := []) (L := []) (RowIs.nil 5 1) rfl (H'.sub (List.nil_sublist _))
theorem good {s : List UInt8} {w0 : World} {b2 b3 : Nat} {T : List (Nat × Value)} {a : Act} {w : World} {u : Value} {L X R : List (Nat × Obj)} (h : Fr 92 [dfrd b2 b3] T a) (h2 : get 2 T = some (ptr b2 0)) (h3 : get 3 T = some (ptr b3 0))
 (H : St w0.heap.size w0 L w) (hp : (R ++ (b3, .cells [int 0].toArray 31 (0, 0)) :: (b2, .cells [u].toArray 22 (0, 0)) :: X).Sublist L) (he : readNo (parse s) = 0) (hr : RowIs 5 1 u (readL (parse s)).length ((readL (parse s)).map byt) R) : bodyPostD Tryz.prog Tryz.f11 (ParseR s w0) .ret a w := by
 refine leaveD h Tryz.results11 (S := fun w' => St w0.heap.size w0 (R ++ (b3, .cells [int 0].toArray 31 (0, 0)) :: (b2, .cells [u].toArray 22 (0, 0)) :: X) w') (CallsD.mono (catch_ok b2 b3 w) ?_) (fun w' H' => .own h2 H' (by repeat (first | exact mh1 | apply mt1 | apply ma1)) rfl (.own h3 H' (by repeat (first | exact mh1 | apply mt1 | apply ma1)) rfl .nil)) (fun w' H' => ?_)
 · rintro e u' w' ⟨hv, hu, hb⟩
   exact ⟨hv, hu, (H.sub hp).call hb⟩
 · refine ⟨_, rfl, _, by rw [he]; rfl, ?_⟩
   exact GivesRow.of (L := (b3, .cells [int 0].toArray 31 (0, 0)) :: (b2, .cells [u].toArray 22 (0, 0)) :: X) hr rfl H'
set_option maxHeartbeats 2000000 in
theorem parse_ret (s : List UInt8) (hs : s.length ≤ 70000) (w0 : World) : Calls Tryz.prog 11 [str s].toArray w0 (ParseR s w0) := by
 refine enterD Tryz.func11 rfl (Nat.le_of_ble_eq_true rfl) ?_
 intro a h; rw [Tryz.ntmps11] at h
 have hF := Fd.wide
 have H := St.begin w0
 repeat refine cS0 ?_
 refine cR0 ?_
 refine i_alloc hF h H rfl (by decide) ?_
 clear h H; intro a w b2 _ h H
 refine i_alloc hF h H rfl (by decide) ?_
 clear h H; intro a w b3 _ h H
 first | refine cEt0 ?_ | refine cE0 ?_
 repeat refine cS0 ?_
 refine cR0 ?_
 refine i_makeFunc hF h rfl rfl (by decide) ?_
 clear h; intro a h
 refine i_defer h rfl rfl ?_
 clear h; intro a h
 first | refine cEt0 ?_ | refine cE0 ?_
 have h : Fr 92 [dfrd b2 b3] _ a := h
 by_cases h1 : 65536 < s.length
 · have hp : parse s = .long := by unfold parse; rw [if_pos h1]
   repeat refine cS0 ?_
   refine cR0 ?_
   refine sM0 hF h rfl rfl (by decide) ?_
   clear h; intro a h
   (first | (refine i_len hF h rfl rfl (by decide) ?_) | (refine i_lenS hF h rfl rfl (by decide) ?_))
   clear h; intro a h
   (first | (refine iC0 hF h rfl rfl rfl (i_leq_t (by omega)) (by decide) ?_) | (refine iC0 hF h rfl rfl rfl (i_leq_f (by omega)) (by decide) ?_))
   clear h; intro a h
   refine i_callP hF h rfl (must_f _ _) rfl (by decide) ?_ (fun _ _ hf => hf.elim)
   rintro c w ⟨rfl, hb⟩
   with_reducible repeat (first | refine xa0 ?_ | refine xb0 ?_ | refine xc0 ?_ | refine xd0 ?_ | refine xe0 (by decide) ?_ | refine xf0 ?_ | refine xg0 ?_ | refine xh0 ?_ | refine xi0 ?_)
   refine bail h rfl rfl (H.call hb) (.refl _) (by rw [hp]; rfl) (by rw [hp]; rfl)
 by_cases h2 : s = []
 · subst h2
   repeat refine cS0 ?_
   refine cR0 ?_
   refine sM0 hF h rfl rfl (by decide) ?_
   clear h; intro a h
   (first | (refine i_len hF h rfl rfl (by decide) ?_) | (refine i_lenS hF h rfl rfl (by decide) ?_))
   clear h; intro a h
   (first | (refine iC0 hF h rfl rfl rfl (i_leq_t (by omega)) (by decide) ?_) | (refine iC0 hF h rfl rfl rfl (i_leq_f (by omega)) (by decide) ?_))
   clear h; intro a h
   refine i_call hF h rfl (must_t _ _) rfl (by decide) ?_
   clear h; rintro _ w hb a h; replace H := H.call hb; clear hb
   first | refine cEt0 ?_ | refine cE0 ?_
   repeat refine cS0 ?_
   refine cR0 ?_
   refine sM0 hF h rfl rfl (by decide) ?_
   clear h; intro a h
   refine i_eqS hF h rfl rfl rfl rfl (by decide) ?_
   clear h; intro a h
   first | refine cEt0 ?_ | refine cE0 ?_
   repeat refine cS0 ?_
   refine c_condT h rfl ?_
   repeat refine cS0 ?_
   refine cR0 ?_
   refine jS0 hF h H rfl rfl rfl rfl (by repeat (first | exact Upd.here | apply Upd.there | apply Upd.app)) (by repeat (first | exact SetAt.zero | apply SetAt.succ)) ?_
   clear H; intro w H
   refine jS0 hF h H rfl rfl rfl rfl (by repeat (first | exact Upd.here | apply Upd.there | apply Upd.app)) (by repeat (first | exact SetAt.zero | apply SetAt.succ)) ?_
   clear H; intro w H
   first | refine cEt0 ?_ | refine cE0 ?_
   refine c_ret ?_
   with_reducible repeat (first | refine xa0 ?_ | refine xb0 ?_ | refine xc0 ?_ | refine xd0 ?_ | refine xe0 (by decide) ?_ | refine xf0 ?_ | refine xg0 ?_ | refine xh0 ?_ | refine xi0 ?_)
   exact good (R := []) h rfl rfl H (.refl _) rfl (RowIs.nil 5 1)
 repeat refine cS0 ?_
 refine cR0 ?_
 refine sM0 hF h rfl rfl (by decide) ?_
 clear h; intro a h
 (first | (refine i_len hF h rfl rfl (by decide) ?_) | (refine i_lenS hF h rfl rfl (by decide) ?_))
 clear h; intro a h
 (first | (refine iC0 hF h rfl rfl rfl (i_leq_t (by omega)) (by decide) ?_) | (refine iC0 hF h rfl rfl rfl (i_leq_f (by omega)) (by decide) ?_))
 clear h; intro a h
 refine i_call hF h rfl (must_t _ _) rfl (by decide) ?_
 clear h; rintro _ w hb a h; replace H := H.call hb; clear hb
 first | refine cEt0 ?_ | refine cE0 ?_
 repeat refine cS0 ?_
 refine cR0 ?_
 refine sM0 hF h rfl rfl (by decide) ?_
 clear h; intro a h
 refine i_eqS hF h rfl rfl rfl (show (s == []) = false from beq_eq_false_iff_ne.2 h2) (by decide) ?_
 clear h; intro a h
 first | refine cEt0 ?_ | refine cE0 ?_
 repeat refine cS0 ?_
 refine c_condF h rfl ?_
 first | refine cKt0 ?_ | refine cK0 ?_
 repeat refine cS0 ?_
 refine cR0 ?_
 refine i_makeMap (enc := str) hF h H rfl (by decide) ?_
 clear h H; intro a w b21 _ h H
 refine sA0 hF h rfl rfl (by decide) ?_
 clear h; intro a h
 first | refine cEt0 ?_ | refine cE0 ?_
 repeat refine cS0 ?_
 refine cR0 ?_
 refine i_call hF h rfl (table_ret _) rfl (by decide) ?_
 clear h; rintro _ w ⟨bm, M, c, rfl, hbm, hmm, hT, hb⟩ a h; replace H := H.callNew hb hbm hmm; clear hb hbm hmm
 refine i_range (enc := byt) hF h H rfl rfl (H.mem (List.Mem.head _)) (by decide) ?_
 clear h H; intro a w b23 hr23 h H hm23
 first | refine cEt0 ?_ | refine cE0 ?_
 have hne : bm ≠ b23 := by
  intro e
  have := H.nodup
  rw [e] at this
  simp at this
 repeat refine cS0 ?_
 refine c_join (fun a' w' => ∃ Nn cn, (∀ nm, mget Nn nm = (named nm).map fun op => byt (UInt8.ofNat op)) ∧ Fr 92 [dfrd b2 b3] [(4, .map (some b21)), (3, ptr b3 0), (2, ptr b2 0), (0, str s)] a' ∧ St w0.heap.size w0 (outs b21 b3 b2 Nn cn (.slice none 0 0)) w') ?_ ?_
 · refine c_block ?_
   refine c_loopN (fun k a' w' => ∃ pre vis Nn cn, k = toCome M (vis.map (·.2.2)) ∧ Seen M pre vis ∧ Names vis Nn cn ∧ Fr 92 [dfrd b2 b3] [(23, ptr b23 0), (4, .map (some b21)), (3, ptr b3 0), (2, ptr b2 0), (0, str s)] a' ∧ St w0.heap.size w0 ((b23, .mapIter (some bm) c (vis.map (·.2.2)).toArray c) :: (bm, mapObj byt M c) :: outs b21 b3 b2 Nn cn (.slice none 0 0)) w') (toCome M []) ⟨[], [], [], 0, rfl, Seen.nil M, Names.nil, (h.sub (by repeat (first | exact trivial | refine ⟨rfl, ?_⟩))), H⟩ ?_
   clear h H hm23 hr23
   rintro q a w ⟨pre, vis, Nn, cn, rfl, hsn, hN, h, H⟩
   repeat refine cS0 ?_
   refine cR0 ?_
   refine j_next _ hF h H rfl rfl (H.mem (by repeat (first | exact mh1 | apply mt1 | apply ma1))) hT.1 (fun i => by repeat (first | exact Upd.here | apply Upd.there | apply Upd.app)) hne (by decide) ?_ ?_
   · clear h H
     intro hall a w h H
     refine iX0 hF h rfl rfl rfl (by decide) ?_
     clear h; intro a h
     refine cEt0 ?_
     repeat refine cS0 ?_
     refine c_condF h rfl ?_
     refine c_exit ?_
     with_reducible repeat (first | refine xa0 ?_ | refine xb0 ?_ | refine xc0 ?_ | refine xd0 ?_ | refine xe0 (by decide) ?_ | refine xf0 ?_ | refine xg0 ?_ | refine xh0 ?_ | refine xi0 ?_)
     refine ⟨Nn, cn, hN.all hT hsn.2.2.1 (fun x hx => ?_), (h.sub (by repeat (first | exact trivial | refine ⟨rfl, ?_⟩))), H.sub (.cons _ (.cons _ (.refl _)))⟩
     obtain ⟨y, hy, e⟩ := List.mem_map.1 (hall x hx)
     rw [← inj_of_map _ _ hT.1.born y (hsn.2.2.1 y hy) x hx e]
     exact hy
   · clear h H
     intro x hx hns a w h H
     have hdec := toCome_lt hx hns
     have hs' := hsn.more hx hns
     have e : (vis ++ [x]).map (·.2.2) = vis.map (·.2.2) ++ [x.2.2] := by simp
     rw [← e] at hdec H
     refine iX0 hF h rfl rfl rfl (by decide) ?_
     clear h; intro a h
     refine cEt0 ?_
     repeat refine cS0 ?_
     refine c_condT h rfl ?_
     first | refine cKt0 ?_ | refine cK0 ?_
     obtain ⟨y, hy, hxv⟩ := tab_entry hT hx
     have hnm : nmOf x.1 = y.1 := by unfold nmOf; rw [hy]; rfl
     have hf := hN.fresh hT hsn.2.2.1 hx hns
     have hN' := hN.more hf
     rw [hnm] at hf hN'
     repeat refine cS0 ?_
     refine c_block ?_
     repeat refine cS0 ?_
     refine cR0 ?_
     refine i_entry hF h H rfl rfl (H.mem (by repeat (first | exact mh1 | apply mt1 | apply ma1))) hT.1 hx (by rw [e]; exact mh1) (by decide) ?_
     clear h; intro a h
     rw [hxv] at h
     refine iX0 hF h rfl rfl rfl (by decide) ?_
     clear h; intro a h
     refine iX0 hF h rfl rfl rfl (by decide) ?_
     clear h; intro a h
     refine i_alloc hF h H rfl (by decide) ?_
     clear h H; intro a w b6 _ h H
     refine sA0 hF h rfl rfl (by decide) ?_
     clear h; intro a h
     refine j_storeA hF h H rfl rfl rfl rfl rfl (by repeat (first | exact Upd.here | apply Upd.there | apply Upd.app)) (by repeat (first | exact PutAt.nil | apply PutAt.put | apply PutAt.skip)) ?_
     clear H; intro w H
     refine cEt0 ?_
     repeat refine cS0 ?_
     refine cR0 ?_
     refine sM0 hF h rfl rfl (by decide) ?_
     clear h; intro a h
     refine iFa0 hF h rfl rfl rfl (by decide) ?_
     clear h; intro a h; try simp only [Nat.reduceAdd] at h
     refine iL0 hF h H rfl rfl (by repeat (first | exact mh1 | apply mt1 | apply ma1)) (by exact rfl) (by decide) ?_
     clear h; intro a h
     refine sM0 hF h rfl rfl (by decide) ?_
     clear h; intro a h
     refine j_mapNew (enc := str) hF h H rfl rfl rfl rfl (by repeat (first | exact Upd.here | apply Upd.there | apply Upd.app)) (by first | rfl | assumption) (Or.inl rfl) ?_
     clear H; intro w H
     refine cE0 ?_
     with_reducible repeat (first | refine xa0 ?_ | refine xb0 ?_ | refine xc0 ?_ | refine xd0 ?_ | refine xe0 (by decide) ?_ | refine xf0 ?_ | refine xg0 ?_ | refine xh0 ?_ | refine xi0 ?_)
     exact ⟨_, hdec, _, vis ++ [x], _, _, rfl, hs', hN', (h.sub (by repeat (first | exact trivial | refine ⟨rfl, ?_⟩))), H.sub (.cons _ (.refl _))⟩
 clear h H hm23 hr23
 rintro a w ⟨Nn, cn, hNn, h, H⟩
 have hps := parse_split s (by omega) h2
 repeat refine cS0 ?_
 refine cR0 ?_
 refine sM0 hF h rfl rfl (by decide) ?_
 clear h; intro a h
 refine i_call hF h rfl (ssplit_ret s (by omega) _) rfl (by decide) ?_
 clear h; rintro vw w hg a h; obtain ⟨RW, hrw, H2⟩ := H.row hg; replace H := H2; clear H2 hg; obtain ⟨pw, nw, cw, rfl⟩ := row_slice hrw
 refine i_build hF h rfl rfl rfl (by decide) ?_
 clear h; intro a h
 refine i_build hF h rfl rfl rfl (by decide) ?_
 clear h; intro a h
 refine i_boxA hF h H rfl rfl (by decide) ?_
 clear h H; intro a w b37 _ h H
 refine sA0 hF h rfl rfl (by decide) ?_
 clear h; intro a h
 first | refine cEt0 ?_ | refine cE0 ?_
 obtain ⟨vw, hvw⟩ : ∃ v, v = Value.slice pw nw cw := ⟨_, rfl⟩
 rw [← hvw] at hrw
 replace H : St w0.heap.size w0 ([(b37, .cells [vw].toArray 70 (0, 0))] ++ ([] ++ (RW ++ outs b21 b3 b2 Nn cn (.slice none 0 0)))) w := by rw [hvw]; exact H
 have hwl := split_len s
 have hwm := split_mem s
 obtain ⟨ws, hws⟩ : ∃ ws, ws = split s := ⟨_, rfl⟩
 rw [← hws] at hps hwl hwm hrw
 have hbad : parseW ws = none → readNo (parse s) = 200 ∧ readL (parse s) = [] := fun hn => by rw [hps, hn]; exact ⟨rfl, rfl⟩
 have hE0 : ∀ w, Reads w0.heap.size w0 RW w → ES str w vw ws := fun w' H' => (ES.row (l := ws) (L := []) hrw (by rw [List.append_nil]; exact H')).1
 repeat refine cS0 ?_
 refine c_block ?_
 refine c_loopN (fun q a' w' => ∃ r acc v u R, q = r.length ∧ (∀ x ∈ r, x.length ≤ s.length) ∧ acc.length + 33 * r.length ≤ 33 * ws.length ∧ parseW ws = (parseW r).map (acc ++ ·) ∧ RowIs 5 1 u acc.length (acc.map byt) R ∧ (∀ w, Reads w0.heap.size w0 RW w → ES str w v r) ∧ Fr 92 [dfrd b2 b3] [(7, ptr b37 0), (4, .map (some b21)), (3, ptr b3 0), (2, ptr b2 0), (0, str s)] a' ∧ St w0.heap.size w0 ([(b37, .cells [v].toArray 70 (0, 0))] ++ (R ++ (RW ++ outs b21 b3 b2 Nn cn u))) w') ws.length
  ⟨ws, [], vw, _, [], rfl, hwm, by simp, by simp, RowIs.nil 5 1, hE0, (h.sub (by repeat (first | exact trivial | refine ⟨rfl, ?_⟩))), H⟩ ?_
 clear h H hE0
 rintro q a w ⟨r, acc, v, u, R, rfl, hrm, hacc, hrel, hr, hE, h, H⟩
 have hZ : ∀ {R : List (Nat × Obj)} {u : Value}, RW.Sublist (R ++ (RW ++ outs b21 b3 b2 Nn cn u)) := List.sublist_append_of_sublist_right (List.sublist_append_left _ _)
 cases r with
 | nil =>
  have hlen : ([] : List (List UInt8)).length = 0 := rfl
  repeat refine cS0 ?_
  refine cR0 ?_
  refine sM0 hF h rfl rfl (by decide) ?_
  clear h; intro a h
  refine i_nilCheck hF h rfl rfl (by decide) ?_
  clear h; intro a h
  refine iFa0 hF h rfl rfl rfl (by decide) ?_
  clear h; intro a h; try simp only [Nat.reduceAdd] at h
  refine iFa0 hF h rfl rfl rfl (by decide) ?_
  clear h; intro a h; try simp only [Nat.reduceAdd] at h
  refine iL0 hF h H rfl rfl (by repeat (first | exact mh1 | apply mt1 | apply ma1)) (by exact rfl) (by decide) ?_
  clear h; intro a h
  refine i_lenB hF h rfl rfl (hE _ (rd hZ H)) (by decide) ?_
  clear h; intro a h
  (first | (refine iC0 hF h rfl rfl rfl (i_gtr_t (by omega)) (by decide) ?_) | (refine iC0 hF h rfl rfl rfl (i_gtr_f (by omega)) (by decide) ?_))
  clear h; intro a h
  first | refine cEt0 ?_ | refine cE0 ?_
  repeat refine cS0 ?_
  refine c_condF h rfl ?_
  refine c_exit ?_
  with_reducible repeat (first | refine xa0 ?_ | refine xb0 ?_ | refine xc0 ?_ | refine xd0 ?_ | refine xe0 (by decide) ?_ | refine xf0 ?_ | refine xg0 ?_ | refine xh0 ?_ | refine xi0 ?_)
  rw [parseW] at hrel
  have e : parse s = .code acc := by rw [hps, hrel]; simp
  repeat refine cS0 ?_
  refine cR0 ?_
  refine iL0 hF h H rfl rfl (by repeat (first | exact mh1 | apply mt1 | apply ma1)) (by exact rfl) (by decide) ?_
  clear h; intro a h
  refine jS0 hF h H rfl rfl rfl hr.one (by repeat (first | exact Upd.here | apply Upd.there | apply Upd.app)) (by repeat (first | exact SetAt.zero | apply SetAt.succ)) ?_
  clear H; intro w H
  refine jS0 hF h H rfl rfl rfl rfl (by repeat (first | exact Upd.here | apply Upd.there | apply Upd.app)) (by repeat (first | exact SetAt.zero | apply SetAt.succ)) ?_
  clear H; intro w H
  first | refine cEt0 ?_ | refine cE0 ?_
  refine c_ret ?_
  with_reducible repeat (first | refine xa0 ?_ | refine xb0 ?_ | refine xc0 ?_ | refine xd0 ?_ | refine xe0 (by decide) ?_ | refine xf0 ?_ | refine xg0 ?_ | refine xh0 ?_ | refine xi0 ?_)
  refine good (R := R) (X := []) h rfl rfl H (show List.Sublist _ ((b37, _) :: (R ++ (RW ++ _))) from .cons _ (.append (.refl _) (List.sublist_append_of_sublist_right (.cons _ (.refl _))))) (by rw [e]; rfl) (by rw [e]; exact hr)
 | cons x r =>
  have hlen : (x :: r).length = r.length + 1 := rfl
  have hxl := hrm x (by simp)
  have hrm2 : ∀ y ∈ r, y.length ≤ s.length := fun y hy => hrm y (by simp [hy])
  have hsub : ∀ {R : List (Nat × Obj)} {u : Value}, ((b3, Obj.cells [int 0].toArray 31 (0, 0)) :: (b2, Obj.cells [u].toArray 22 (0, 0)) :: []).Sublist (R ++ (RW ++ outs b21 b3 b2 Nn cn u)) := List.sublist_append_of_sublist_right (List.sublist_append_of_sublist_right (.cons _ (.refl _)))
  rw [parseW] at hrel
  repeat refine cS0 ?_
  refine cR0 ?_
  refine sM0 hF h rfl rfl (by decide) ?_
  clear h; intro a h
  refine i_nilCheck hF h rfl rfl (by decide) ?_
  clear h; intro a h
  refine iFa0 hF h rfl rfl rfl (by decide) ?_
  clear h; intro a h; try simp only [Nat.reduceAdd] at h
  refine iFa0 hF h rfl rfl rfl (by decide) ?_
  clear h; intro a h; try simp only [Nat.reduceAdd] at h
  refine iL0 hF h H rfl rfl (by repeat (first | exact mh1 | apply mt1 | apply ma1)) (by exact rfl) (by decide) ?_
  clear h; intro a h
  refine i_lenB hF h rfl rfl (hE _ (rd hZ H)) (by decide) ?_
  clear h; intro a h
  (first | (refine iC0 hF h rfl rfl rfl (i_gtr_t (by omega)) (by decide) ?_) | (refine iC0 hF h rfl rfl rfl (i_gtr_f (by omega)) (by decide) ?_))
  clear h; intro a h
  first | refine cEt0 ?_ | refine cE0 ?_
  repeat refine cS0 ?_
  refine c_condT h rfl ?_
  first | refine cKt0 ?_ | refine cK0 ?_
  repeat refine cS0 ?_
  refine c_block ?_
  repeat refine cS0 ?_
  refine cR0 ?_
  refine sM0 hF h rfl rfl (by decide) ?_
  clear h; intro a h
  refine sM0 hF h rfl rfl (by decide) ?_
  clear h; intro a h
  refine i_nilCheck hF h rfl rfl (by decide) ?_
  clear h; intro a h
  refine iFa0 hF h rfl rfl rfl (by decide) ?_
  clear h; intro a h; try simp only [Nat.reduceAdd] at h
  refine iFa0 hF h rfl rfl rfl (by decide) ?_
  clear h; intro a h; try simp only [Nat.reduceAdd] at h
  refine iL0 hF h H rfl rfl (by repeat (first | exact mh1 | apply mt1 | apply ma1)) (by exact rfl) (by decide) ?_
  clear h; intro a h
  refine i_idxB (j := 0) hF h rfl rfl (hE _ (rd hZ H)) rfl rfl (by decide) ?_
  clear h; intro be bo a hbe h
  refine i_loadW hF h rfl rfl hbe (by decide) ?_
  clear h; intro a h
  refine i_lookupW (enc := str) (zero := .int .u8 0) hF h rfl (.inl ⟨by kernel_rfl, rfl⟩) rfl rfl (H.mem (by unfold outs; repeat (first | exact mh1 | apply mt1 | apply ma1))) (by decide) zero5 ?_
  clear h; intro a h
  refine sM0 hF h rfl rfl (by decide) ?_
  clear h; intro a h
  refine iX0 hF h rfl rfl rfl (by decide) ?_
  clear h; intro a h
  refine iX0 hF h rfl rfl rfl (by decide) ?_
  clear h; intro a h
  refine sA0 hF h rfl rfl (by decide) ?_
  clear h; intro a h
  refine sA0 hF h rfl rfl (by decide) ?_
  clear h; intro a h
  first | refine cEt0 ?_ | refine cE0 ?_
  rw [hNn] at h
  cases hn : named x with
  | none =>
   rw [hn] at hrel h
   dsimp only at hrel
   repeat refine cS0 ?_
   refine cR0 ?_
   refine sM0 hF h rfl rfl (by decide) ?_
   clear h; intro a h
   refine i_not hF h rfl rfl (by decide) ?_
   clear h; intro a h; try simp only [] at h
   first | refine cEt0 ?_ | refine cE0 ?_
   repeat refine cS0 ?_
   refine c_condT h rfl ?_
   cases hb1 : bytesOf 1 x with
   | none =>
    rw [hb1] at hrel
    obtain ⟨hno, hl⟩ := hbad (by rw [hrel]; rfl)
    repeat refine cS0 ?_
    refine cR0 ?_
    refine sM0 hF h rfl rfl (by decide) ?_
    clear h; intro a h
    refine i_callP hF h rfl (bytes_bad (many := 1) (by decide) (by omega) hb1 hZ H hE) rfl (by decide) ?_ (fun _ _ hf => hf.elim)
    rintro c w ⟨rfl, H⟩
    with_reducible repeat (first | refine xa0 ?_ | refine xb0 ?_ | refine xc0 ?_ | refine xd0 ?_ | refine xe0 (by decide) ?_ | refine xf0 ?_ | refine xg0 ?_ | refine xh0 ?_ | refine xi0 ?_)
    exact bail h rfl rfl H hsub hno hl
   | some bs =>
    rw [hb1] at hrel
    obtain ⟨b, rfl⟩ : ∃ b, bs = [b] := by
     have := (bytesOf_some 1 x bs hb1).2
     cases bs with
     | nil => simp at this
     | cons b t => cases t with
      | nil => exact ⟨b, rfl⟩
      | cons _ _ => simp at this
    dsimp only at hrel
    repeat refine cS0 ?_
    refine cR0 ?_
    refine sM0 hF h rfl rfl (by decide) ?_
    clear h; intro a h
    refine i_call hF h rfl (bytes_ok (many := 1) (by decide) (Nat.le_trans hxl (by omega)) hb1 hZ H hE) rfl (by decide) ?_
    clear h H; rintro ub w ⟨v', RB, hrb, hE2, H⟩ a h
    refine sA0 hF h rfl rfl (by decide) ?_
    clear h; intro a h
    first | refine cEt0 ?_ | refine cE0 ?_
    cases hk : info b.toNat with
    | some y =>
     rw [hk] at hrel
     obtain ⟨hno, hl⟩ := hbad (by rw [hrel]; rfl)
     repeat refine cS0 ?_
     refine cR0 ?_
     refine sM0 hF h rfl rfl (by decide) ?_
     clear h; intro a h
     refine i_idxB (j := 0) hF h rfl rfl (ES.row hrb H).1 rfl rfl (by decide) ?_
     clear h; intro be bo a hbe h
     refine i_loadW hF h rfl rfl hbe (by decide) ?_
     clear h; intro a h
     refine i_call hF h rfl (info_ret b _) rfl (by decide) ?_
     clear h; rintro _ w ⟨rfl, hb⟩ a h; replace H := H.call hb; clear hb
     refine sM0 hF h rfl rfl (by decide) ?_
     clear h; intro a h
     refine iX0 hF h rfl rfl rfl (by decide) ?_
     clear h; intro a h
     refine iX0 hF h rfl rfl rfl (by decide) ?_
     clear h; intro a h
     refine i_alloc hF h H rfl (by decide) ?_
     clear h H; intro a w b11 _ h H
     refine j_storeA hF h H rfl rfl rfl rfl rfl (by repeat (first | exact Upd.here | apply Upd.there | apply Upd.app)) (by repeat (first | exact PutAt.nil | apply PutAt.put | apply PutAt.skip)) ?_
     clear H; intro w H
     refine sA0 hF h rfl rfl (by decide) ?_
     clear h; intro a h
     first | refine cEt0 ?_ | refine cE0 ?_
     simp only [hk, Option.isSome_some] at h
     repeat refine cS0 ?_
     refine cR0 ?_
     refine sM0 hF h rfl rfl (by decide) ?_
     clear h; intro a h
     refine i_not hF h rfl rfl (by decide) ?_
     clear h; intro a h; try simp only [Bool.not_true] at h
     refine i_callP hF h rfl (must_f _ _) rfl (by decide) ?_ (fun _ _ hf => hf.elim)
     rintro c w ⟨rfl, hb⟩
     with_reducible repeat (first | refine xa0 ?_ | refine xb0 ?_ | refine xc0 ?_ | refine xd0 ?_ | refine xe0 (by decide) ?_ | refine xf0 ?_ | refine xg0 ?_ | refine xh0 ?_ | refine xi0 ?_)
     exact bail h rfl rfl (H.call hb) (.cons _ (List.sublist_append_of_sublist_right (.cons _ hsub))) hno hl
    | none =>
     rw [hk] at hrel
     simp only [Option.isSome_none, Bool.false_eq_true, if_false] at hrel
     repeat refine cS0 ?_
     refine cR0 ?_
     refine sM0 hF h rfl rfl (by decide) ?_
     clear h; intro a h
     refine i_idxB (j := 0) hF h rfl rfl (ES.row hrb H).1 rfl rfl (by decide) ?_
     clear h; intro be bo a hbe h
     refine i_loadW hF h rfl rfl hbe (by decide) ?_
     clear h; intro a h
     refine i_call hF h rfl (info_ret b _) rfl (by decide) ?_
     clear h; rintro _ w ⟨rfl, hb⟩ a h; replace H := H.call hb; clear hb
     refine sM0 hF h rfl rfl (by decide) ?_
     clear h; intro a h
     refine iX0 hF h rfl rfl rfl (by decide) ?_
     clear h; intro a h
     refine iX0 hF h rfl rfl rfl (by decide) ?_
     clear h; intro a h
     refine i_alloc hF h H rfl (by decide) ?_
     clear h H; intro a w b11 _ h H
     refine j_storeA hF h H rfl rfl rfl rfl rfl (by repeat (first | exact Upd.here | apply Upd.there | apply Upd.app)) (by repeat (first | exact PutAt.nil | apply PutAt.put | apply PutAt.skip)) ?_
     clear H; intro w H
     refine sA0 hF h rfl rfl (by decide) ?_
     clear h; intro a h
     first | refine cEt0 ?_ | refine cE0 ?_
     simp only [hk, Option.isSome_none] at h
     repeat refine cS0 ?_
     refine cR0 ?_
     refine sM0 hF h rfl rfl (by decide) ?_
     clear h; intro a h
     refine i_not hF h rfl rfl (by decide) ?_
     clear h; intro a h; try simp only [Bool.not_false] at h
     refine i_call hF h rfl (must_t _ _) rfl (by decide) ?_
     clear h; rintro _ w hb a h; replace H := H.call hb; clear hb
     first | refine cEt0 ?_ | refine cE0 ?_
     repeat refine cS0 ?_
     refine cR0 ?_
     refine iL0 hF h H rfl rfl (by unfold outs; repeat (first | exact mh1 | apply mt1 | apply ma1)) (by exact rfl) (by decide) ?_
     clear h; intro a h
     refine sM0 hF h rfl rfl (by decide) ?_
     clear h; intro a h
     have hEB := (ES.row (l := [b]) hrb (H.sub (.cons _ (.refl _)))).1
     replace H := swap2 (E1 := (b11, _) :: RB) (E2 := [(b37, _)]) H
     refine i_appendE hF h hr H rfl rfl rfl hEB (by simp) (fun _ => rfl) (by (try simp); omega) (by (try simp); omega) (by decide) ?_
     clear h H; intro a w u2 R2 hr2 H h
     refine jS0 hF h H rfl rfl rfl hr2.one (by repeat (first | exact Upd.here | apply Upd.there | apply Upd.app)) (by repeat (first | exact SetAt.zero | apply SetAt.succ)) ?_
     clear H; intro w H
     refine cE0 ?_
     refine c_exit ?_
     with_reducible repeat (first | refine xa0 ?_ | refine xb0 ?_ | refine xc0 ?_ | refine xd0 ?_ | refine xe0 (by decide) ?_ | refine xf0 ?_ | refine xg0 ?_ | refine xh0 ?_ | refine xi0 ?_)
     refine ⟨r.length, by simp, r, acc ++ [b], v', u2, R2, rfl, hrm2, by simp; omega, ?_, by simpa using hr2, hE2, (h.sub (by repeat (first | exact trivial | refine ⟨rfl, ?_⟩))), ?_⟩
     · rw [hrel, Option.map_map]
       congr 1
       funext l
       simp
     · exact back2 (E1 := (b11, _) :: RB) H
  | some op =>
   rw [hn] at hrel h
   have hop : op < 256 := (named_info x op hn).1
   obtain ⟨b, rfl⟩ : ∃ b : UInt8, b.toNat = op := ⟨UInt8.ofNat op, by simp; omega⟩
   have hbb : UInt8.ofNat b.toNat = b := UInt8.ofNat_toNat
   dsimp only at hrel
   simp only [Option.map_some, Option.getD_some, hbb] at h
   rw [hbb] at hrel
   repeat refine cS0 ?_
   refine cR0 ?_
   refine sM0 hF h rfl rfl (by decide) ?_
   clear h; intro a h
   refine i_not hF h rfl rfl (by decide) ?_
   clear h; intro a h; try simp only [Bool.not_true, Bool.not_false] at h
   first | refine cEt0 ?_ | refine cE0 ?_
   repeat refine cS0 ?_
   refine c_condF h rfl ?_
   first | refine cKt0 ?_ | refine cK0 ?_
   repeat refine cS0 ?_
   refine cR0 ?_
   refine sM0 hF h rfl rfl (by decide) ?_
   clear h; intro a h
   refine i_nilCheck hF h rfl rfl (by decide) ?_
   clear h; intro a h
   refine iFa0 hF h rfl rfl rfl (by decide) ?_
   clear h; intro a h; try simp only [Nat.reduceAdd] at h
   refine i_call hF h rfl (take_ret hZ H hE) rfl (by decide) ?_
   clear h H; rintro _ w ⟨rfl, v', hE2, H⟩ a h
   first | refine cEt0 ?_ | refine cE0 ?_
   repeat refine cS0 ?_
   refine cR0 ?_
   refine iL0 hF h H rfl rfl (by unfold outs; repeat (first | exact mh1 | apply mt1 | apply ma1)) (by exact rfl) (by decide) ?_
   clear h; intro a h
   refine sM0 hF h rfl rfl (by decide) ?_
   clear h; intro a h
   refine i_buildSlice hF h H rfl rfl (by decide) (by decide) rfl (by decide) ?_
   clear h H; intro a w b80 _ h H
   replace H := St.swap (E := [(b80, _), (b37, _)]) H
   refine i_append hF h hr H rfl rfl rfl (m := 1) (news := [byt b]) rfl (cells_own H (by repeat (first | exact mh1 | apply mt1 | apply ma1))) (by simp [Value.oneCell']) (by omega) (by omega) (by decide) ?_
   clear h H; intro a w u' R' hr' H h
   refine jS0 hF h H rfl rfl rfl hr'.one (by repeat (first | exact Upd.here | apply Upd.there | apply Upd.app)) (by repeat (first | exact SetAt.zero | apply SetAt.succ)) ?_
   clear H; intro w H
   first | refine cEt0 ?_ | refine cE0 ?_
   replace H : St w0.heap.size w0 ([(b37, .cells [v'].toArray 70 (0, 0))] ++ (R' ++ (RW ++ outs b21 b3 b2 Nn cn u'))) w := (St.swap (E := R') (R := [(b80, _), (b37, _)]) H).sub (.cons _ (.refl _))
   repeat refine cS0 ?_
   refine cR0 ?_
   refine sM0 hF h rfl rfl (by decide) ?_
   clear h; intro a h
   refine i_call hF h rfl (size_ret b _) rfl (by decide) ?_
   clear h; rintro _ w ⟨rfl, hb⟩ a h; replace H := H.call hb; clear hb
   refine sA0 hF h rfl rfl (by decide) ?_
   clear h; intro a h
   first | refine cEt0 ?_ | refine cE0 ?_
   by_cases h0 : sz b.toNat = 0
   · rw [if_pos h0] at hrel
     repeat refine cS0 ?_
     refine cR0 ?_
     refine sM0 hF h rfl rfl (by decide) ?_
     clear h; intro a h
     (first | (refine iC0 hF h rfl rfl rfl (i_gtr_t (by omega)) (by decide) ?_) | (refine iC0 hF h rfl rfl rfl (i_gtr_f (by omega)) (by decide) ?_))
     clear h; intro a h
     first | refine cEt0 ?_ | refine cE0 ?_
     repeat refine cS0 ?_
     refine c_condF h rfl ?_
     refine cK0 ?_
     with_reducible repeat (first | refine xa0 ?_ | refine xb0 ?_ | refine xc0 ?_ | refine xd0 ?_ | refine xe0 (by decide) ?_ | refine xf0 ?_ | refine xg0 ?_ | refine xh0 ?_ | refine xi0 ?_)
     refine ⟨r.length, by simp, r, acc ++ [b], v', u', R', rfl, hrm2, by simp; omega, ?_, by simpa using hr', hE2, (h.sub (by repeat (first | exact trivial | refine ⟨rfl, ?_⟩))), H⟩
     rw [hrel, Option.map_map]
     congr 1
     funext l
     simp
   · rw [if_neg h0] at hrel
     have hs32 := sz_le b.toNat
     repeat refine cS0 ?_
     refine cR0 ?_
     refine sM0 hF h rfl rfl (by decide) ?_
     clear h; intro a h
     (first | (refine iC0 hF h rfl rfl rfl (i_gtr_t (by omega)) (by decide) ?_) | (refine iC0 hF h rfl rfl rfl (i_gtr_f (by omega)) (by decide) ?_))
     clear h; intro a h
     first | refine cEt0 ?_ | refine cE0 ?_
     repeat refine cS0 ?_
     refine c_condT h rfl ?_
     cases r with
     | nil =>
      obtain ⟨hno, hl⟩ := hbad (by rw [hrel]; rfl)
      repeat refine cS0 ?_
      refine d_regionP [5] (outs b21 b3 b2 Nn cn u') 4 (by kernel_rfl) H (by repeat (first | exact ln1 | exact ls1 | exact lr1 | apply lk1 | apply List.Sublist.cons | apply la1)) (by repeat (first | exact npd_bodyD Tryz.results11 rfl | exact npd_body | apply npd_then | apply npd_block)) ?_
      clear H; intro hnp w H
      apply dP0 hF h 0 rfl rfl (by kernel_rfl) (by decide) (hnp _ (by decide)) (by kernel_rfl) (H.sub (by repeat (first | exact ln1 | exact ls1 | exact lr1 | apply lk1 | apply List.Sublist.cons | apply la1)))
      · intro w H
        refine iL0 hF h H rfl rfl (by unfold outs; repeat (first | exact mh1 | apply mt1 | apply ma1)) (by exact rfl) (by decide) ?_
        intro a h
        exact ⟨rfl, h⟩
      clear h; intro a h
      apply dQ0 hF h 1 rfl rfl (by kernel_rfl) (by decide) (hnp _ (by decide)) (fun _ => H.sub (by repeat (first | exact ln1 | exact ls1 | exact lr1 | apply lk1 | apply List.Sublist.cons | apply la1)))
      · intro w
        refine sM0 hF h rfl rfl (by decide) ?_
        intro a h
        exact ⟨rfl, h⟩
      clear h; intro a h
      apply dQ0 hF h 2 rfl rfl (by kernel_rfl) (by decide) (hnp _ (by decide)) (fun _ => H.sub (by repeat (first | exact ln1 | exact ls1 | exact lr1 | apply lk1 | apply List.Sublist.cons | apply la1)))
      · intro w
        refine sM0 hF h rfl rfl (by decide) ?_
        intro a h
        exact ⟨rfl, h⟩
      clear h; intro a h
      refine dE0 3 rfl (by kernel_rfl) ?_
      refine i_callP hF h rfl (bytes_none (many := sz b.toNat) hZ H hE2) rfl (by decide) ?_ (fun _ _ hf => hf.elim)
      rintro c w ⟨rfl, H⟩
      with_reducible repeat (first | refine xa0 ?_ | refine xb0 ?_ | refine xc0 ?_ | refine xd0 ?_ | refine xe0 (by decide) ?_ | refine xf0 ?_ | refine xg0 ?_ | refine xh0 ?_ | refine xi0 ?_)
      exact bail h rfl rfl H hsub hno hl
     | cons y r' =>
      have hyl := hrm y (by simp)
      have hrm3 : ∀ z ∈ r', z.length ≤ s.length := fun z hz => hrm2 z (by simp [hz])
      have hlen2 : (y :: r').length = r'.length + 1 := rfl
      dsimp only at hrel
      cases hb1 : bytesOf (sz b.toNat) y with
      | none =>
       rw [hb1] at hrel
       obtain ⟨hno, hl⟩ := hbad (by rw [hrel]; rfl)
       repeat refine cS0 ?_
       refine d_regionP [5] (outs b21 b3 b2 Nn cn u') 4 (by kernel_rfl) H (by repeat (first | exact ln1 | exact ls1 | exact lr1 | apply lk1 | apply List.Sublist.cons | apply la1)) (by repeat (first | exact npd_bodyD Tryz.results11 rfl | exact npd_body | apply npd_then | apply npd_block)) ?_
       clear H; intro hnp w H
       apply dP0 hF h 0 rfl rfl (by kernel_rfl) (by decide) (hnp _ (by decide)) (by kernel_rfl) (H.sub (by repeat (first | exact ln1 | exact ls1 | exact lr1 | apply lk1 | apply List.Sublist.cons | apply la1)))
       · intro w H
         refine iL0 hF h H rfl rfl (by unfold outs; repeat (first | exact mh1 | apply mt1 | apply ma1)) (by exact rfl) (by decide) ?_
         intro a h
         exact ⟨rfl, h⟩
       clear h; intro a h
       apply dQ0 hF h 1 rfl rfl (by kernel_rfl) (by decide) (hnp _ (by decide)) (fun _ => H.sub (by repeat (first | exact ln1 | exact ls1 | exact lr1 | apply lk1 | apply List.Sublist.cons | apply la1)))
       · intro w
         refine sM0 hF h rfl rfl (by decide) ?_
         intro a h
         exact ⟨rfl, h⟩
       clear h; intro a h
       apply dQ0 hF h 2 rfl rfl (by kernel_rfl) (by decide) (hnp _ (by decide)) (fun _ => H.sub (by repeat (first | exact ln1 | exact ls1 | exact lr1 | apply lk1 | apply List.Sublist.cons | apply la1)))
       · intro w
         refine sM0 hF h rfl rfl (by decide) ?_
         intro a h
         exact ⟨rfl, h⟩
       clear h; intro a h
       refine dE0 3 rfl (by kernel_rfl) ?_
       refine i_callP hF h rfl (bytes_bad (many := sz b.toNat) hs32 (by omega) hb1 hZ H hE2) rfl (by decide) ?_ (fun _ _ hf => hf.elim)
       rintro c w ⟨rfl, H⟩
       with_reducible repeat (first | refine xa0 ?_ | refine xb0 ?_ | refine xc0 ?_ | refine xd0 ?_ | refine xe0 (by decide) ?_ | refine xf0 ?_ | refine xg0 ?_ | refine xh0 ?_ | refine xi0 ?_)
       exact bail h rfl rfl H hsub hno hl
      | some bs =>
       rw [hb1] at hrel
       dsimp only at hrel
       have hbl := (bytesOf_some _ y bs hb1).2
       repeat refine cS0 ?_
       refine d_regionP [5] (outs b21 b3 b2 Nn cn u') 4 (by kernel_rfl) H (by repeat (first | exact ln1 | exact ls1 | exact lr1 | apply lk1 | apply List.Sublist.cons | apply la1)) (by repeat (first | exact npd_bodyD Tryz.results11 rfl | exact npd_body | apply npd_then | apply npd_block)) ?_
       clear H; intro hnp w H
       apply dP0 hF h 0 rfl rfl (by kernel_rfl) (by decide) (hnp _ (by decide)) (by kernel_rfl) (H.sub (by repeat (first | exact ln1 | exact ls1 | exact lr1 | apply lk1 | apply List.Sublist.cons | apply la1)))
       · intro w H
         refine iL0 hF h H rfl rfl (by unfold outs; repeat (first | exact mh1 | apply mt1 | apply ma1)) (by exact rfl) (by decide) ?_
         intro a h
         exact ⟨rfl, h⟩
       clear h; intro a h
       apply dQ0 hF h 1 rfl rfl (by kernel_rfl) (by decide) (hnp _ (by decide)) (fun _ => H.sub (by repeat (first | exact ln1 | exact ls1 | exact lr1 | apply lk1 | apply List.Sublist.cons | apply la1)))
       · intro w
         refine sM0 hF h rfl rfl (by decide) ?_
         intro a h
         exact ⟨rfl, h⟩
       clear h; intro a h
       apply dQ0 hF h 2 rfl rfl (by kernel_rfl) (by decide) (hnp _ (by decide)) (fun _ => H.sub (by repeat (first | exact ln1 | exact ls1 | exact lr1 | apply lk1 | apply List.Sublist.cons | apply la1)))
       · intro w
         refine sM0 hF h rfl rfl (by decide) ?_
         intro a h
         exact ⟨rfl, h⟩
       clear h; intro a h
       refine dE0 3 rfl (by kernel_rfl) ?_
       refine i_call hF h rfl (bytes_ok (many := sz b.toNat) hs32 (Nat.le_trans hyl (by omega)) hb1 hZ H hE2) rfl (by decide) ?_
       clear h H; rintro ub w ⟨v2, RB, hrb, hE3, H⟩ a h
       refine dN0 (H.sub (by repeat (first | exact ln1 | exact ls1 | exact lr1 | apply lk1 | apply List.Sublist.cons | apply la1))) ?_
       have hEB := (ES.row (l := bs) hrb H).1
       replace H := swap2 (E1 := RB) (E2 := [(b37, _)]) H
       refine dE0 4 rfl (by kernel_rfl) ?_
       refine i_appendE hF h hr' H rfl rfl rfl hEB (by omega) (fun _ => rfl) (by (try simp); omega) (by (try simp); omega) (by decide) ?_
       clear h H; intro a w u2 R2 hr2 H h
       refine dN0 (H.sub (by repeat (first | exact ln1 | exact ls1 | exact lr1 | apply lk1 | apply List.Sublist.cons | apply la1))) ?_
       refine dE0 5 rfl (by kernel_rfl) ?_
       refine jS0 hF h H rfl rfl rfl hr2.one (by repeat (first | exact Upd.here | apply Upd.there | apply Upd.app)) (by repeat (first | exact SetAt.zero | apply SetAt.succ)) ?_
       clear H; intro w H
       refine dNm0 (by kernel_rfl) ?_
       clear hnp; first | refine d_endThenP (by kernel_rfl) ?_ | refine d_endQP (by kernel_rfl) ?_
       with_reducible repeat (first | refine xa0 ?_ | refine xb0 ?_ | refine xc0 ?_ | refine xd0 ?_ | refine xe0 (by decide) ?_ | refine xf0 ?_ | refine xg0 ?_ | refine xh0 ?_ | refine xi0 ?_)
       refine ⟨r'.length, by simp; omega, r', acc ++ [b] ++ bs, v2, u2, R2, rfl, hrm3, by simp; omega, ?_, by simpa [Nat.add_assoc, Nat.add_comm 1] using hr2, hE3, (h.sub (by repeat (first | exact trivial | refine ⟨rfl, ?_⟩))), ?_⟩
       · rw [hrel, Option.map_map]
         congr 1
         funext l
         simp
       · exact back2 (E1 := RB) H
end Go.Proofs.YtjlmpghcjgbfjaaGreatDoor.Cw
