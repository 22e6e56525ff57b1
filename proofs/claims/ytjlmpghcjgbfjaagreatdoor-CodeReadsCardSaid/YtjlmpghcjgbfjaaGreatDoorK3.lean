/-
  A part of the proofs of this seat: the executor (one law an operation), the plain laws of code and its text, and the walks of the functions that are reached: Srt4 Srt5 Srt6 Srt7 Srt8.
-/
import Derived.Test.YtjlmpghcjgbfjaaGreatDoorK2
namespace Go.Proofs.YtjlmpghcjgbfjaaGreatDoor.Cw
open Go Go.RowKit Go.Proofs Ex Cd
set_option maxRecDepth 100000
theorem partEq_ret {n0 : Nat} {w0 : World} {b n cap : Nat} {junk : List Value} {X : List (Nat × Obj)} {l : List UInt8} {w : World} (H : St n0 w0 ((b, rowB l junk) :: X) w) (hn : l.length = n) (hn2 : n ≤ 1000000) (p r x : Nat) (h1 : p ≤ x) (h2 : x < r) (h3 : r ≤ n) :
 Rets Tryz.prog 114 [sl b n cap, int p, int r, int x] w fun v w' => (∃ m : Nat, v = int m ∧ p < m ∧ m ≤ r) ∧ Mixed n0 w0 b junk X l w' := by
 refine enter Tryz.func114 rfl (Nat.le_of_ble_eq_true rfl) ?_
 intro a h; rw [Tryz.ntmps114] at h
 have hF := Fd.wide
 repeat refine cS0 ?_
 refine cR0 ?_
 refine sA0 hF h rfl rfl (by decide) ?_
 clear h; intro a h
 first | refine cEt0 ?_ | refine cE0 ?_
 repeat refine cS0 ?_
 refine d_regionL [13, 15] (by kernel_rfl) H ?_
 clear H; intro w H
 apply dQ0 hF h 0 rfl rfl (by kernel_rfl) (by decide) NoP.np (fun _ => H.sub (by repeat (first | exact ln1 | exact ls1 | exact lr1 | apply lk1 | apply List.Sublist.cons | apply la1)))
 · intro w
   refine sM0 hF h rfl rfl (by decide) ?_
   intro a h
   exact ⟨rfl, h⟩
 clear h; intro a h
 apply dQ0 hF h 1 rfl rfl (by kernel_rfl) (by decide) NoP.np (fun _ => H.sub (by repeat (first | exact ln1 | exact ls1 | exact lr1 | apply lk1 | apply List.Sublist.cons | apply la1)))
 · intro w
   refine sM0 hF h rfl rfl (by decide) ?_
   intro a h
   exact ⟨rfl, h⟩
 clear h; intro a h
 apply dQ0 hF h 2 rfl rfl (by kernel_rfl) (by decide) NoP.np (fun _ => H.sub (by repeat (first | exact ln1 | exact ls1 | exact lr1 | apply lk1 | apply List.Sublist.cons | apply la1)))
 · intro w
   refine sM0 hF h rfl rfl (by decide) ?_
   intro a h
   exact ⟨rfl, h⟩
 clear h; intro a h
 apply dQ0 hF h 3 rfl rfl (by kernel_rfl) (by decide) NoP.np (fun _ => H.sub (by repeat (first | exact ln1 | exact ls1 | exact lr1 | apply lk1 | apply List.Sublist.cons | apply la1)))
 · intro w
   refine sM0 hF h rfl rfl (by decide) ?_
   intro a h
   exact ⟨rfl, h⟩
 clear h; intro a h
 apply dQ0 hF h 4 rfl rfl (by kernel_rfl) (by decide) NoP.np (fun _ => H.sub (by repeat (first | exact ln1 | exact ls1 | exact lr1 | apply lk1 | apply List.Sublist.cons | apply la1)))
 · intro w
   refine sM0 hF h rfl rfl (by decide) ?_
   intro a h
   exact ⟨rfl, h⟩
 clear h; intro a h
 apply dQ0 hF h 5 rfl rfl (by kernel_rfl) (by decide) NoP.np (fun _ => H.sub (by repeat (first | exact ln1 | exact ls1 | exact lr1 | apply lk1 | apply List.Sublist.cons | apply la1)))
 · intro w
   refine sM0 hF h rfl rfl (by decide) ?_
   intro a h
   exact ⟨rfl, h⟩
 clear h; intro a h
 apply dQ0 hF h 6 rfl rfl (by kernel_rfl) (by decide) NoP.np (fun _ => H.sub (by repeat (first | exact ln1 | exact ls1 | exact lr1 | apply lk1 | apply List.Sublist.cons | apply la1)))
 · intro w
   refine i_idxRow hF h rfl rfl rfl (by omega) (by omega) (by decide) ?_
   intro a h
   exact ⟨rfl, h⟩
 clear h; intro a h
 apply dP0 hF h 7 rfl rfl (by kernel_rfl) (by decide) NoP.np (by kernel_rfl) (H.sub (by repeat (first | exact ln1 | exact ls1 | exact lr1 | apply lk1 | apply List.Sublist.cons | apply la1)))
 · intro w H
   refine i_loadRow hF h H rfl rfl (by repeat (first | exact mh1 | apply mt1 | apply ma1)) (by omega) (by decide) ?_
   intro a h
   exact ⟨rfl, h⟩
 clear h; intro a h
 apply dQ0 hF h 8 rfl rfl (by kernel_rfl) (by decide) NoP.np (fun _ => H.sub (by repeat (first | exact ln1 | exact ls1 | exact lr1 | apply lk1 | apply List.Sublist.cons | apply la1)))
 · intro w
   refine sM0 hF h rfl rfl (by decide) ?_
   intro a h
   exact ⟨rfl, h⟩
 clear h; intro a h
 apply dQ0 hF h 9 rfl rfl (by kernel_rfl) (by decide) NoP.np (fun _ => H.sub (by repeat (first | exact ln1 | exact ls1 | exact lr1 | apply lk1 | apply List.Sublist.cons | apply la1)))
 · intro w
   refine sM0 hF h rfl rfl (by decide) ?_
   intro a h
   exact ⟨rfl, h⟩
 clear h; intro a h
 apply dQ0 hF h 10 rfl rfl (by kernel_rfl) (by decide) NoP.np (fun _ => H.sub (by repeat (first | exact ln1 | exact ls1 | exact lr1 | apply lk1 | apply List.Sublist.cons | apply la1)))
 · intro w
   refine i_idxRow hF h rfl rfl rfl (by omega) (by omega) (by decide) ?_
   intro a h
   exact ⟨rfl, h⟩
 clear h; intro a h
 apply dP0 hF h 11 rfl rfl (by kernel_rfl) (by decide) NoP.np (by kernel_rfl) (H.sub (by repeat (first | exact ln1 | exact ls1 | exact lr1 | apply lk1 | apply List.Sublist.cons | apply la1)))
 · intro w H
   refine i_loadRow hF h H rfl rfl (by repeat (first | exact mh1 | apply mt1 | apply ma1)) (by omega) (by decide) ?_
   intro a h
   exact ⟨rfl, h⟩
 clear h; intro a h
 apply dQ0 hF h 12 rfl rfl (by kernel_rfl) (by decide) NoP.np (fun _ => H.sub (by repeat (first | exact ln1 | exact ls1 | exact lr1 | apply lk1 | apply List.Sublist.cons | apply la1)))
 · intro w
   refine i_idxRow hF h rfl rfl rfl (by omega) (by omega) (by decide) ?_
   intro a h
   exact ⟨rfl, h⟩
 clear h; intro a h
 refine dE0 13 rfl (by kernel_rfl) ?_
 refine i_storeRow hF h H rfl rfl rfl (by repeat (first | exact Upd.here | apply Upd.there | apply Upd.app)) (by (try simp only [List.length_set]); omega) ?_
 clear H; intro w H
 refine dNm0 (by kernel_rfl) ?_
 apply dQ0 hF h 14 rfl rfl (by kernel_rfl) (by decide) NoP.np (fun hh => absurd hh (by rw [show ph _ _ = true from by kernel_rfl]; decide))
 · intro w
   refine i_idxRow hF h rfl rfl rfl (by omega) (by omega) (by decide) ?_
   intro a h
   exact ⟨rfl, h⟩
 clear h; intro a h
 refine dE0 15 rfl (by kernel_rfl) ?_
 refine i_storeRow hF h H rfl rfl rfl (by repeat (first | exact Upd.here | apply Upd.there | apply Upd.app)) (by (try simp only [List.length_set]); omega) ?_
 clear H; intro w H
 refine dNm0 (by kernel_rfl) ?_
 first | refine d_endThen (by kernel_rfl) ?_ | refine d_endQ (by kernel_rfl) ?_
 have hsw := swapP (l := l) (i := (p : Int).toNat) (j := (x : Int).toNat) (by omega) (by omega)
 repeat refine cS0 ?_
 refine cR0 ?_
 refine sM0 hF h rfl rfl (by decide) ?_
 clear h; intro a h
 refine i_ar64 hF h rfl rfl rfl rfl (by omega) (by omega) (by decide) ?_
 clear h; intro a h
 refine sM0 hF h rfl rfl (by decide) ?_
 clear h; intro a h
 refine i_ar64 hF h rfl rfl rfl rfl (by omega) (by omega) (by decide) ?_
 clear h; intro a h
 refine sA0 hF h rfl rfl (by decide) ?_
 clear h; intro a h
 refine sA0 hF h rfl rfl (by decide) ?_
 clear h; intro a h
 first | refine cEt0 ?_ | refine cE0 ?_
 repeat refine cS0 ?_
 refine c_block ?_
 refine c_loopN (fun k a' w' => ∃ i J l', k = r + 1 - i ∧ p + 1 ≤ i ∧ i ≤ r ∧ i ≤ J + 1 ∧ J ≤ r ∧ p + 1 ≤ J ∧ l'.Perm l ∧ Fr 84 [] [(9, int (i : Nat)), (10, int ((J : Nat) - 1)), (0, sl b n cap), (1, int p)] a' ∧ St n0 w0 ((b, rowB l' junk) :: X) w') (r - p) ⟨p + 1, r, _, by omega, by omega, by omega, by omega, by omega, by omega, hsw, (h.sub (by repeat (first | exact trivial | refine ⟨rfl, ?_⟩))), H⟩ ?_
 clear h H hsw
 rintro k a w ⟨i, J, l', rfl, hi1, hi2, hi3, hJ1, hJ2, hp, h, H⟩
 have hlen := hp.length_eq
 rw [hn] at hlen
 repeat refine cS0 ?_
 refine c_block ?_
 repeat refine cS0 ?_
 refine c_join (fun a' w' => ∃ i', i ≤ i' ∧ i' ≤ J + 1 ∧ i' ≤ r ∧ Fr 84 [] [(9, int (i' : Nat)), (10, int ((J : Nat) - 1)), (0, sl b n cap), (1, int p)] a' ∧ St n0 w0 ((b, rowB l' junk) :: X) w') ?_ ?_
 · refine c_block ?_
   refine c_loopN (fun k a' w' => ∃ i', k = J - i' ∧ i ≤ i' ∧ i' ≤ J + 1 ∧ i' ≤ r ∧ Fr 84 [] [(9, int (i' : Nat)), (10, int ((J : Nat) - 1)), (0, sl b n cap), (1, int p)] a' ∧ St n0 w0 ((b, rowB l' junk) :: X) w') (J - i) ⟨i, rfl, by omega, by omega, by omega, (h.sub (by repeat (first | exact trivial | refine ⟨rfl, ?_⟩))), H⟩ ?_
   clear h H
   rintro k a w ⟨i', rfl, g1, g2, g3, h, H⟩
   by_cases hi : i' < J
   · repeat refine cS0 ?_
     refine d_regionL [] (by kernel_rfl) H ?_
     clear H; intro w H
     apply dQ0 hF h 0 rfl rfl (by kernel_rfl) (by decide) NoP.np (fun _ => H.sub (by repeat (first | exact ln1 | exact ls1 | exact lr1 | apply lk1 | apply List.Sublist.cons | apply la1)))
     · intro w
       refine sM0 hF h rfl rfl (by decide) ?_
       intro a h
       exact ⟨rfl, h⟩
     clear h; intro a h
     apply dQ0 hF h 1 rfl rfl (by kernel_rfl) (by decide) NoP.np (fun _ => H.sub (by repeat (first | exact ln1 | exact ls1 | exact lr1 | apply lk1 | apply List.Sublist.cons | apply la1)))
     · intro w
       refine sM0 hF h rfl rfl (by decide) ?_
       intro a h
       exact ⟨rfl, h⟩
     clear h; intro a h
     apply dQ0 hF h 2 rfl rfl (by kernel_rfl) (by decide) NoP.np (fun _ => H.sub (by repeat (first | exact ln1 | exact ls1 | exact lr1 | apply lk1 | apply List.Sublist.cons | apply la1)))
     · intro w
       (first | (refine iC0 hF h rfl rfl rfl (i_leq_t (by omega)) (by decide) ?_) | (refine iC0 hF h rfl rfl rfl (i_leq_f (by omega)) (by decide) ?_))
       intro a h
       exact ⟨rfl, h⟩
     clear h; intro a h
     apply dQ0 hF h 3 rfl rfl (by kernel_rfl) (by decide) NoP.np (fun _ => H.sub (by repeat (first | exact ln1 | exact ls1 | exact lr1 | apply lk1 | apply List.Sublist.cons | apply la1)))
     · intro w
       refine sM0 hF h rfl rfl (by decide) ?_
       intro a h
       exact ⟨rfl, h⟩
     clear h; intro a h
     apply dQ0 hF h 4 rfl rfl (by kernel_rfl) (by decide) NoP.np (fun _ => H.sub (by repeat (first | exact ln1 | exact ls1 | exact lr1 | apply lk1 | apply List.Sublist.cons | apply la1)))
     · intro w
       first | (refine sK0 hF h rfl (by decide) ?_; intro a h) | (refine sM0 hF h rfl rfl (by decide) ?_; intro a h)
       exact ⟨rfl, h⟩
     clear h; intro a h
     apply dQ0 hF h 5 rfl rfl (by kernel_rfl) (by decide) NoP.np (fun _ => H.sub (by repeat (first | exact ln1 | exact ls1 | exact lr1 | apply lk1 | apply List.Sublist.cons | apply la1)))
     · intro w
       first | (refine sK0 hF h rfl (by decide) ?_; intro a h) | (refine sM0 hF h rfl rfl (by decide) ?_; intro a h)
       exact ⟨rfl, h⟩
     clear h; intro a h
     apply dQ0 hF h 6 rfl rfl (by kernel_rfl) (by decide) NoP.np (fun _ => H.sub (by repeat (first | exact ln1 | exact ls1 | exact lr1 | apply lk1 | apply List.Sublist.cons | apply la1)))
     · intro w
       first | (refine sK0 hF h rfl (by decide) ?_; intro a h) | (refine i_idxRow hF h rfl rfl rfl (by omega) (by omega) (by decide) ?_; intro a h)
       exact ⟨rfl, h⟩
     clear h; intro a h
     apply dP0 hF h 7 rfl rfl (by kernel_rfl) (by decide) NoP.np (by kernel_rfl) (H.sub (by repeat (first | exact ln1 | exact ls1 | exact lr1 | apply lk1 | apply List.Sublist.cons | apply la1)))
     · intro w H
       first | (refine sK0 hF h rfl (by decide) ?_; intro a h) | (refine i_loadRow hF h H rfl rfl (by repeat (first | exact mh1 | apply mt1 | apply ma1)) (by omega) (by decide) ?_; intro a h)
       exact ⟨rfl, h⟩
     clear h; intro a h
     apply dQ0 hF h 8 rfl rfl (by kernel_rfl) (by decide) NoP.np (fun _ => H.sub (by repeat (first | exact ln1 | exact ls1 | exact lr1 | apply lk1 | apply List.Sublist.cons | apply la1)))
     · intro w
       first | (refine sK0 hF h rfl (by decide) ?_; intro a h) | (refine sM0 hF h rfl rfl (by decide) ?_; intro a h)
       exact ⟨rfl, h⟩
     clear h; intro a h
     apply dQ0 hF h 9 rfl rfl (by kernel_rfl) (by decide) NoP.np (fun _ => H.sub (by repeat (first | exact ln1 | exact ls1 | exact lr1 | apply lk1 | apply List.Sublist.cons | apply la1)))
     · intro w
       first | (refine sK0 hF h rfl (by decide) ?_; intro a h) | (refine sM0 hF h rfl rfl (by decide) ?_; intro a h)
       exact ⟨rfl, h⟩
     clear h; intro a h
     apply dQ0 hF h 10 rfl rfl (by kernel_rfl) (by decide) NoP.np (fun _ => H.sub (by repeat (first | exact ln1 | exact ls1 | exact lr1 | apply lk1 | apply List.Sublist.cons | apply la1)))
     · intro w
       first | (refine sK0 hF h rfl (by decide) ?_; intro a h) | (refine i_idxRow hF h rfl rfl rfl (by omega) (by omega) (by decide) ?_; intro a h)
       exact ⟨rfl, h⟩
     clear h; intro a h
     apply dP0 hF h 11 rfl rfl (by kernel_rfl) (by decide) NoP.np (by kernel_rfl) (H.sub (by repeat (first | exact ln1 | exact ls1 | exact lr1 | apply lk1 | apply List.Sublist.cons | apply la1)))
     · intro w H
       first | (refine sK0 hF h rfl (by decide) ?_; intro a h) | (refine i_loadRow hF h H rfl rfl (by repeat (first | exact mh1 | apply mt1 | apply ma1)) (by omega) (by decide) ?_; intro a h)
       exact ⟨rfl, h⟩
     clear h; intro a h
     refine dE0 12 rfl (by kernel_rfl) ?_
     first | (refine sK0 hF h rfl (by decide) ?_; clear h; intro a h) | (refine i_call hF h rfl (less_ret _ _ _) rfl (by decide) ?_; clear h; rintro _ w ⟨q, rfl, hb⟩ a h; replace H := H.call hb; clear hb)
     refine dN0 (H.sub (by repeat (first | exact ln1 | exact ls1 | exact lr1 | apply lk1 | apply List.Sublist.cons | apply la1))) ?_
     apply dQ0 hF h 13 rfl rfl (by kernel_rfl) (by decide) NoP.np (fun _ => H.sub (by repeat (first | exact ln1 | exact ls1 | exact lr1 | apply lk1 | apply List.Sublist.cons | apply la1)))
     · intro w
       first | (refine sK0 hF h rfl (by decide) ?_; intro a h) | (refine i_not hF h rfl rfl (by decide) ?_; intro a h; try simp only [Bool.not_true, Bool.not_false] at h)
       exact ⟨rfl, h⟩
     clear h; intro a h
     apply dQ0 hF h 14 rfl rfl (by kernel_rfl) (by decide) NoP.np (fun _ => H.sub (by repeat (first | exact ln1 | exact ls1 | exact lr1 | apply lk1 | apply List.Sublist.cons | apply la1)))
     · intro w
       refine s_pick hF h rfl rfl rfl (by decide) ?_
       intro a h
       exact ⟨rfl, h⟩
     clear h; intro a h
     first | refine d_endThen (by kernel_rfl) ?_ | refine d_endQ (by kernel_rfl) ?_
     cases q
     · -- q = false
       repeat refine cS0 ?_
       refine c_condT h rfl ?_
       first | refine cKt0 ?_ | refine cK0 ?_
       refine c_block ?_
       repeat refine cS0 ?_
       refine cR0 ?_
       refine sM0 hF h rfl rfl (by decide) ?_
       clear h; intro a h
       refine i_ar64 hF h rfl rfl rfl rfl (by omega) (by omega) (by decide) ?_
       clear h; intro a h
       refine sA0 hF h rfl rfl (by decide) ?_
       clear h; intro a h
       refine cE0 ?_
       with_reducible repeat (first | refine xa0 ?_ | refine xb0 ?_ | refine xc0 ?_ | refine xd0 ?_ | refine xe0 (by decide) ?_ | refine xf0 ?_ | refine xg0 ?_ | refine xh0 ?_ | refine xi0 ?_)
       refine ⟨J - (i' + 1), by omega, i' + 1, rfl, by omega, by omega, by omega, ?_, H⟩
       exact (h.sub (by repeat (first | exact trivial | refine ⟨rfl, ?_⟩)))
     · -- q = true
       repeat refine cS0 ?_
       refine c_condF h rfl ?_
       refine c_exit ?_
       with_reducible repeat (first | refine xa0 ?_ | refine xb0 ?_ | refine xc0 ?_ | refine xd0 ?_ | refine xe0 (by decide) ?_ | refine xf0 ?_ | refine xg0 ?_ | refine xh0 ?_ | refine xi0 ?_)
       exact ⟨i', g1, g2, g3, (h.sub (by repeat (first | exact trivial | refine ⟨rfl, ?_⟩))), H⟩
   · repeat refine cS0 ?_
     refine d_regionL [] (by kernel_rfl) H ?_
     clear H; intro w H
     apply dQ0 hF h 0 rfl rfl (by kernel_rfl) (by decide) NoP.np (fun _ => H.sub (by repeat (first | exact ln1 | exact ls1 | exact lr1 | apply lk1 | apply List.Sublist.cons | apply la1)))
     · intro w
       refine sM0 hF h rfl rfl (by decide) ?_
       intro a h
       exact ⟨rfl, h⟩
     clear h; intro a h
     apply dQ0 hF h 1 rfl rfl (by kernel_rfl) (by decide) NoP.np (fun _ => H.sub (by repeat (first | exact ln1 | exact ls1 | exact lr1 | apply lk1 | apply List.Sublist.cons | apply la1)))
     · intro w
       refine sM0 hF h rfl rfl (by decide) ?_
       intro a h
       exact ⟨rfl, h⟩
     clear h; intro a h
     apply dQ0 hF h 2 rfl rfl (by kernel_rfl) (by decide) NoP.np (fun _ => H.sub (by repeat (first | exact ln1 | exact ls1 | exact lr1 | apply lk1 | apply List.Sublist.cons | apply la1)))
     · intro w
       (first | (refine iC0 hF h rfl rfl rfl (i_leq_t (by omega)) (by decide) ?_) | (refine iC0 hF h rfl rfl rfl (i_leq_f (by omega)) (by decide) ?_))
       intro a h
       exact ⟨rfl, h⟩
     clear h; intro a h
     apply dQ0 hF h 3 rfl rfl (by kernel_rfl) (by decide) NoP.np (fun _ => H.sub (by repeat (first | exact ln1 | exact ls1 | exact lr1 | apply lk1 | apply List.Sublist.cons | apply la1)))
     · intro w
       refine sM0 hF h rfl rfl (by decide) ?_
       intro a h
       exact ⟨rfl, h⟩
     clear h; intro a h
     apply dQ0 hF h 4 rfl rfl (by kernel_rfl) (by decide) NoP.np (fun _ => H.sub (by repeat (first | exact ln1 | exact ls1 | exact lr1 | apply lk1 | apply List.Sublist.cons | apply la1)))
     · intro w
       first | (refine sK0 hF h rfl (by decide) ?_; intro a h) | (refine sM0 hF h rfl rfl (by decide) ?_; intro a h)
       exact ⟨rfl, h⟩
     clear h; intro a h
     apply dQ0 hF h 5 rfl rfl (by kernel_rfl) (by decide) NoP.np (fun _ => H.sub (by repeat (first | exact ln1 | exact ls1 | exact lr1 | apply lk1 | apply List.Sublist.cons | apply la1)))
     · intro w
       first | (refine sK0 hF h rfl (by decide) ?_; intro a h) | (refine sM0 hF h rfl rfl (by decide) ?_; intro a h)
       exact ⟨rfl, h⟩
     clear h; intro a h
     apply dQ0 hF h 6 rfl rfl (by kernel_rfl) (by decide) NoP.np (fun _ => H.sub (by repeat (first | exact ln1 | exact ls1 | exact lr1 | apply lk1 | apply List.Sublist.cons | apply la1)))
     · intro w
       first | (refine sK0 hF h rfl (by decide) ?_; intro a h) | (refine i_idxRow hF h rfl rfl rfl (by omega) (by omega) (by decide) ?_; intro a h)
       exact ⟨rfl, h⟩
     clear h; intro a h
     apply dP0 hF h 7 rfl rfl (by kernel_rfl) (by decide) NoP.np (by kernel_rfl) (H.sub (by repeat (first | exact ln1 | exact ls1 | exact lr1 | apply lk1 | apply List.Sublist.cons | apply la1)))
     · intro w H
       first | (refine sK0 hF h rfl (by decide) ?_; intro a h) | (refine i_loadRow hF h H rfl rfl (by repeat (first | exact mh1 | apply mt1 | apply ma1)) (by omega) (by decide) ?_; intro a h)
       exact ⟨rfl, h⟩
     clear h; intro a h
     apply dQ0 hF h 8 rfl rfl (by kernel_rfl) (by decide) NoP.np (fun _ => H.sub (by repeat (first | exact ln1 | exact ls1 | exact lr1 | apply lk1 | apply List.Sublist.cons | apply la1)))
     · intro w
       first | (refine sK0 hF h rfl (by decide) ?_; intro a h) | (refine sM0 hF h rfl rfl (by decide) ?_; intro a h)
       exact ⟨rfl, h⟩
     clear h; intro a h
     apply dQ0 hF h 9 rfl rfl (by kernel_rfl) (by decide) NoP.np (fun _ => H.sub (by repeat (first | exact ln1 | exact ls1 | exact lr1 | apply lk1 | apply List.Sublist.cons | apply la1)))
     · intro w
       first | (refine sK0 hF h rfl (by decide) ?_; intro a h) | (refine sM0 hF h rfl rfl (by decide) ?_; intro a h)
       exact ⟨rfl, h⟩
     clear h; intro a h
     apply dQ0 hF h 10 rfl rfl (by kernel_rfl) (by decide) NoP.np (fun _ => H.sub (by repeat (first | exact ln1 | exact ls1 | exact lr1 | apply lk1 | apply List.Sublist.cons | apply la1)))
     · intro w
       first | (refine sK0 hF h rfl (by decide) ?_; intro a h) | (refine i_idxRow hF h rfl rfl rfl (by omega) (by omega) (by decide) ?_; intro a h)
       exact ⟨rfl, h⟩
     clear h; intro a h
     apply dP0 hF h 11 rfl rfl (by kernel_rfl) (by decide) NoP.np (by kernel_rfl) (H.sub (by repeat (first | exact ln1 | exact ls1 | exact lr1 | apply lk1 | apply List.Sublist.cons | apply la1)))
     · intro w H
       first | (refine sK0 hF h rfl (by decide) ?_; intro a h) | (refine i_loadRow hF h H rfl rfl (by repeat (first | exact mh1 | apply mt1 | apply ma1)) (by omega) (by decide) ?_; intro a h)
       exact ⟨rfl, h⟩
     clear h; intro a h
     refine dE0 12 rfl (by kernel_rfl) ?_
     first | (refine sK0 hF h rfl (by decide) ?_; clear h; intro a h) | (refine i_call hF h rfl (less_ret _ _ _) rfl (by decide) ?_; clear h; rintro _ w ⟨q, rfl, hb⟩ a h; replace H := H.call hb; clear hb)
     refine dN0 (H.sub (by repeat (first | exact ln1 | exact ls1 | exact lr1 | apply lk1 | apply List.Sublist.cons | apply la1))) ?_
     apply dQ0 hF h 13 rfl rfl (by kernel_rfl) (by decide) NoP.np (fun _ => H.sub (by repeat (first | exact ln1 | exact ls1 | exact lr1 | apply lk1 | apply List.Sublist.cons | apply la1)))
     · intro w
       first | (refine sK0 hF h rfl (by decide) ?_; intro a h) | (refine i_not hF h rfl rfl (by decide) ?_; intro a h; try simp only [Bool.not_true, Bool.not_false] at h)
       exact ⟨rfl, h⟩
     clear h; intro a h
     apply dQ0 hF h 14 rfl rfl (by kernel_rfl) (by decide) NoP.np (fun _ => H.sub (by repeat (first | exact ln1 | exact ls1 | exact lr1 | apply lk1 | apply List.Sublist.cons | apply la1)))
     · intro w
       refine s_pick hF h rfl rfl rfl (by decide) ?_
       intro a h
       exact ⟨rfl, h⟩
     clear h; intro a h
     first | refine d_endThen (by kernel_rfl) ?_ | refine d_endQ (by kernel_rfl) ?_
     repeat refine cS0 ?_
     refine c_condF h rfl ?_
     refine c_exit ?_
     with_reducible repeat (first | refine xa0 ?_ | refine xb0 ?_ | refine xc0 ?_ | refine xd0 ?_ | refine xe0 (by decide) ?_ | refine xf0 ?_ | refine xg0 ?_ | refine xh0 ?_ | refine xi0 ?_)
     exact ⟨i', g1, g2, g3, (h.sub (by repeat (first | exact trivial | refine ⟨rfl, ?_⟩))), H⟩
 clear h H
 rintro a w ⟨i2, k1, k2, k3, h, H⟩
 repeat refine cS0 ?_
 refine c_join (fun a' w' => ∃ j', j' ≤ J ∧ p + 1 ≤ j' ∧ i2 ≤ j' + 1 ∧ Fr 84 [] [(9, int (i2 : Nat)), (10, int ((j' : Nat) - 1)), (0, sl b n cap), (1, int p)] a' ∧ St n0 w0 ((b, rowB l' junk) :: X) w') ?_ ?_
 · refine c_block ?_
   refine c_loopN (fun k a' w' => ∃ j', j' = k ∧ j' ≤ J ∧ p + 1 ≤ j' ∧ i2 ≤ j' + 1 ∧ Fr 84 [] [(9, int (i2 : Nat)), (10, int ((j' : Nat) - 1)), (0, sl b n cap), (1, int p)] a' ∧ St n0 w0 ((b, rowB l' junk) :: X) w') (J) ⟨J, rfl, by omega, by omega, by omega, (h.sub (by repeat (first | exact trivial | refine ⟨rfl, ?_⟩))), H⟩ ?_
   clear h H
   rintro k a w ⟨j', rfl, g1, g2, g3, h, H⟩
   by_cases hi : i2 < j'
   · repeat refine cS0 ?_
     refine d_regionL [] (by kernel_rfl) H ?_
     clear H; intro w H
     apply dQ0 hF h 0 rfl rfl (by kernel_rfl) (by decide) NoP.np (fun _ => H.sub (by repeat (first | exact ln1 | exact ls1 | exact lr1 | apply lk1 | apply List.Sublist.cons | apply la1)))
     · intro w
       refine sM0 hF h rfl rfl (by decide) ?_
       intro a h
       exact ⟨rfl, h⟩
     clear h; intro a h
     apply dQ0 hF h 1 rfl rfl (by kernel_rfl) (by decide) NoP.np (fun _ => H.sub (by repeat (first | exact ln1 | exact ls1 | exact lr1 | apply lk1 | apply List.Sublist.cons | apply la1)))
     · intro w
       refine sM0 hF h rfl rfl (by decide) ?_
       intro a h
       exact ⟨rfl, h⟩
     clear h; intro a h
     apply dQ0 hF h 2 rfl rfl (by kernel_rfl) (by decide) NoP.np (fun _ => H.sub (by repeat (first | exact ln1 | exact ls1 | exact lr1 | apply lk1 | apply List.Sublist.cons | apply la1)))
     · intro w
       (first | (refine iC0 hF h rfl rfl rfl (i_leq_t (by omega)) (by decide) ?_) | (refine iC0 hF h rfl rfl rfl (i_leq_f (by omega)) (by decide) ?_))
       intro a h
       exact ⟨rfl, h⟩
     clear h; intro a h
     apply dQ0 hF h 3 rfl rfl (by kernel_rfl) (by decide) NoP.np (fun _ => H.sub (by repeat (first | exact ln1 | exact ls1 | exact lr1 | apply lk1 | apply List.Sublist.cons | apply la1)))
     · intro w
       refine sM0 hF h rfl rfl (by decide) ?_
       intro a h
       exact ⟨rfl, h⟩
     clear h; intro a h
     apply dQ0 hF h 4 rfl rfl (by kernel_rfl) (by decide) NoP.np (fun _ => H.sub (by repeat (first | exact ln1 | exact ls1 | exact lr1 | apply lk1 | apply List.Sublist.cons | apply la1)))
     · intro w
       first | (refine sK0 hF h rfl (by decide) ?_; intro a h) | (refine sM0 hF h rfl rfl (by decide) ?_; intro a h)
       exact ⟨rfl, h⟩
     clear h; intro a h
     apply dQ0 hF h 5 rfl rfl (by kernel_rfl) (by decide) NoP.np (fun _ => H.sub (by repeat (first | exact ln1 | exact ls1 | exact lr1 | apply lk1 | apply List.Sublist.cons | apply la1)))
     · intro w
       first | (refine sK0 hF h rfl (by decide) ?_; intro a h) | (refine sM0 hF h rfl rfl (by decide) ?_; intro a h)
       exact ⟨rfl, h⟩
     clear h; intro a h
     apply dQ0 hF h 6 rfl rfl (by kernel_rfl) (by decide) NoP.np (fun _ => H.sub (by repeat (first | exact ln1 | exact ls1 | exact lr1 | apply lk1 | apply List.Sublist.cons | apply la1)))
     · intro w
       first | (refine sK0 hF h rfl (by decide) ?_; intro a h) | (refine i_idxRow hF h rfl rfl rfl (by omega) (by omega) (by decide) ?_; intro a h)
       exact ⟨rfl, h⟩
     clear h; intro a h
     apply dP0 hF h 7 rfl rfl (by kernel_rfl) (by decide) NoP.np (by kernel_rfl) (H.sub (by repeat (first | exact ln1 | exact ls1 | exact lr1 | apply lk1 | apply List.Sublist.cons | apply la1)))
     · intro w H
       first | (refine sK0 hF h rfl (by decide) ?_; intro a h) | (refine i_loadRow hF h H rfl rfl (by repeat (first | exact mh1 | apply mt1 | apply ma1)) (by omega) (by decide) ?_; intro a h)
       exact ⟨rfl, h⟩
     clear h; intro a h
     apply dQ0 hF h 8 rfl rfl (by kernel_rfl) (by decide) NoP.np (fun _ => H.sub (by repeat (first | exact ln1 | exact ls1 | exact lr1 | apply lk1 | apply List.Sublist.cons | apply la1)))
     · intro w
       first | (refine sK0 hF h rfl (by decide) ?_; intro a h) | (refine sM0 hF h rfl rfl (by decide) ?_; intro a h)
       exact ⟨rfl, h⟩
     clear h; intro a h
     apply dQ0 hF h 9 rfl rfl (by kernel_rfl) (by decide) NoP.np (fun _ => H.sub (by repeat (first | exact ln1 | exact ls1 | exact lr1 | apply lk1 | apply List.Sublist.cons | apply la1)))
     · intro w
       first | (refine sK0 hF h rfl (by decide) ?_; intro a h) | (refine sM0 hF h rfl rfl (by decide) ?_; intro a h)
       exact ⟨rfl, h⟩
     clear h; intro a h
     apply dQ0 hF h 10 rfl rfl (by kernel_rfl) (by decide) NoP.np (fun _ => H.sub (by repeat (first | exact ln1 | exact ls1 | exact lr1 | apply lk1 | apply List.Sublist.cons | apply la1)))
     · intro w
       first | (refine sK0 hF h rfl (by decide) ?_; intro a h) | (refine i_idxRow hF h rfl rfl rfl (by omega) (by omega) (by decide) ?_; intro a h)
       exact ⟨rfl, h⟩
     clear h; intro a h
     apply dP0 hF h 11 rfl rfl (by kernel_rfl) (by decide) NoP.np (by kernel_rfl) (H.sub (by repeat (first | exact ln1 | exact ls1 | exact lr1 | apply lk1 | apply List.Sublist.cons | apply la1)))
     · intro w H
       first | (refine sK0 hF h rfl (by decide) ?_; intro a h) | (refine i_loadRow hF h H rfl rfl (by repeat (first | exact mh1 | apply mt1 | apply ma1)) (by omega) (by decide) ?_; intro a h)
       exact ⟨rfl, h⟩
     clear h; intro a h
     refine dE0 12 rfl (by kernel_rfl) ?_
     first | (refine sK0 hF h rfl (by decide) ?_; clear h; intro a h) | (refine i_call hF h rfl (less_ret _ _ _) rfl (by decide) ?_; clear h; rintro _ w ⟨q, rfl, hb⟩ a h; replace H := H.call hb; clear hb)
     refine dN0 (H.sub (by repeat (first | exact ln1 | exact ls1 | exact lr1 | apply lk1 | apply List.Sublist.cons | apply la1))) ?_
     apply dQ0 hF h 13 rfl rfl (by kernel_rfl) (by decide) NoP.np (fun _ => H.sub (by repeat (first | exact ln1 | exact ls1 | exact lr1 | apply lk1 | apply List.Sublist.cons | apply la1)))
     · intro w
       refine s_pick hF h rfl rfl rfl (by decide) ?_
       intro a h
       exact ⟨rfl, h⟩
     clear h; intro a h
     first | refine d_endThen (by kernel_rfl) ?_ | refine d_endQ (by kernel_rfl) ?_
     cases q
     · -- q = false
       repeat refine cS0 ?_
       refine c_condF h rfl ?_
       refine c_exit ?_
       with_reducible repeat (first | refine xa0 ?_ | refine xb0 ?_ | refine xc0 ?_ | refine xd0 ?_ | refine xe0 (by decide) ?_ | refine xf0 ?_ | refine xg0 ?_ | refine xh0 ?_ | refine xi0 ?_)
       exact ⟨j', g1, g2, g3, (h.sub (by repeat (first | exact trivial | refine ⟨rfl, ?_⟩))), H⟩
     · -- q = true
       repeat refine cS0 ?_
       refine c_condT h rfl ?_
       first | refine cKt0 ?_ | refine cK0 ?_
       refine c_block ?_
       repeat refine cS0 ?_
       refine cR0 ?_
       refine sM0 hF h rfl rfl (by decide) ?_
       clear h; intro a h
       refine i_ar64 hF h rfl rfl rfl rfl (by omega) (by omega) (by decide) ?_
       clear h; intro a h
       refine sA0 hF h rfl rfl (by decide) ?_
       clear h; intro a h
       refine cE0 ?_
       with_reducible repeat (first | refine xa0 ?_ | refine xb0 ?_ | refine xc0 ?_ | refine xd0 ?_ | refine xe0 (by decide) ?_ | refine xf0 ?_ | refine xg0 ?_ | refine xh0 ?_ | refine xi0 ?_)
       refine ⟨(j' - 1), by omega, j' - 1, rfl, by omega, by omega, by omega, ?_, H⟩
       rw [show ((j' - 1 : Nat) : Int) = (j' : Int) - 1 by omega]
       exact (h.sub (by repeat (first | exact trivial | refine ⟨rfl, ?_⟩)))
   · repeat refine cS0 ?_
     refine d_regionL [] (by kernel_rfl) H ?_
     clear H; intro w H
     apply dQ0 hF h 0 rfl rfl (by kernel_rfl) (by decide) NoP.np (fun _ => H.sub (by repeat (first | exact ln1 | exact ls1 | exact lr1 | apply lk1 | apply List.Sublist.cons | apply la1)))
     · intro w
       refine sM0 hF h rfl rfl (by decide) ?_
       intro a h
       exact ⟨rfl, h⟩
     clear h; intro a h
     apply dQ0 hF h 1 rfl rfl (by kernel_rfl) (by decide) NoP.np (fun _ => H.sub (by repeat (first | exact ln1 | exact ls1 | exact lr1 | apply lk1 | apply List.Sublist.cons | apply la1)))
     · intro w
       refine sM0 hF h rfl rfl (by decide) ?_
       intro a h
       exact ⟨rfl, h⟩
     clear h; intro a h
     apply dQ0 hF h 2 rfl rfl (by kernel_rfl) (by decide) NoP.np (fun _ => H.sub (by repeat (first | exact ln1 | exact ls1 | exact lr1 | apply lk1 | apply List.Sublist.cons | apply la1)))
     · intro w
       (first | (refine iC0 hF h rfl rfl rfl (i_leq_t (by omega)) (by decide) ?_) | (refine iC0 hF h rfl rfl rfl (i_leq_f (by omega)) (by decide) ?_))
       intro a h
       exact ⟨rfl, h⟩
     clear h; intro a h
     apply dQ0 hF h 3 rfl rfl (by kernel_rfl) (by decide) NoP.np (fun _ => H.sub (by repeat (first | exact ln1 | exact ls1 | exact lr1 | apply lk1 | apply List.Sublist.cons | apply la1)))
     · intro w
       refine sM0 hF h rfl rfl (by decide) ?_
       intro a h
       exact ⟨rfl, h⟩
     clear h; intro a h
     apply dQ0 hF h 4 rfl rfl (by kernel_rfl) (by decide) NoP.np (fun _ => H.sub (by repeat (first | exact ln1 | exact ls1 | exact lr1 | apply lk1 | apply List.Sublist.cons | apply la1)))
     · intro w
       first | (refine sK0 hF h rfl (by decide) ?_; intro a h) | (refine sM0 hF h rfl rfl (by decide) ?_; intro a h)
       exact ⟨rfl, h⟩
     clear h; intro a h
     apply dQ0 hF h 5 rfl rfl (by kernel_rfl) (by decide) NoP.np (fun _ => H.sub (by repeat (first | exact ln1 | exact ls1 | exact lr1 | apply lk1 | apply List.Sublist.cons | apply la1)))
     · intro w
       first | (refine sK0 hF h rfl (by decide) ?_; intro a h) | (refine sM0 hF h rfl rfl (by decide) ?_; intro a h)
       exact ⟨rfl, h⟩
     clear h; intro a h
     apply dQ0 hF h 6 rfl rfl (by kernel_rfl) (by decide) NoP.np (fun _ => H.sub (by repeat (first | exact ln1 | exact ls1 | exact lr1 | apply lk1 | apply List.Sublist.cons | apply la1)))
     · intro w
       first | (refine sK0 hF h rfl (by decide) ?_; intro a h) | (refine i_idxRow hF h rfl rfl rfl (by omega) (by omega) (by decide) ?_; intro a h)
       exact ⟨rfl, h⟩
     clear h; intro a h
     apply dP0 hF h 7 rfl rfl (by kernel_rfl) (by decide) NoP.np (by kernel_rfl) (H.sub (by repeat (first | exact ln1 | exact ls1 | exact lr1 | apply lk1 | apply List.Sublist.cons | apply la1)))
     · intro w H
       first | (refine sK0 hF h rfl (by decide) ?_; intro a h) | (refine i_loadRow hF h H rfl rfl (by repeat (first | exact mh1 | apply mt1 | apply ma1)) (by omega) (by decide) ?_; intro a h)
       exact ⟨rfl, h⟩
     clear h; intro a h
     apply dQ0 hF h 8 rfl rfl (by kernel_rfl) (by decide) NoP.np (fun _ => H.sub (by repeat (first | exact ln1 | exact ls1 | exact lr1 | apply lk1 | apply List.Sublist.cons | apply la1)))
     · intro w
       first | (refine sK0 hF h rfl (by decide) ?_; intro a h) | (refine sM0 hF h rfl rfl (by decide) ?_; intro a h)
       exact ⟨rfl, h⟩
     clear h; intro a h
     apply dQ0 hF h 9 rfl rfl (by kernel_rfl) (by decide) NoP.np (fun _ => H.sub (by repeat (first | exact ln1 | exact ls1 | exact lr1 | apply lk1 | apply List.Sublist.cons | apply la1)))
     · intro w
       first | (refine sK0 hF h rfl (by decide) ?_; intro a h) | (refine sM0 hF h rfl rfl (by decide) ?_; intro a h)
       exact ⟨rfl, h⟩
     clear h; intro a h
     apply dQ0 hF h 10 rfl rfl (by kernel_rfl) (by decide) NoP.np (fun _ => H.sub (by repeat (first | exact ln1 | exact ls1 | exact lr1 | apply lk1 | apply List.Sublist.cons | apply la1)))
     · intro w
       first | (refine sK0 hF h rfl (by decide) ?_; intro a h) | (refine i_idxRow hF h rfl rfl rfl (by omega) (by omega) (by decide) ?_; intro a h)
       exact ⟨rfl, h⟩
     clear h; intro a h
     apply dP0 hF h 11 rfl rfl (by kernel_rfl) (by decide) NoP.np (by kernel_rfl) (H.sub (by repeat (first | exact ln1 | exact ls1 | exact lr1 | apply lk1 | apply List.Sublist.cons | apply la1)))
     · intro w H
       first | (refine sK0 hF h rfl (by decide) ?_; intro a h) | (refine i_loadRow hF h H rfl rfl (by repeat (first | exact mh1 | apply mt1 | apply ma1)) (by omega) (by decide) ?_; intro a h)
       exact ⟨rfl, h⟩
     clear h; intro a h
     refine dE0 12 rfl (by kernel_rfl) ?_
     first | (refine sK0 hF h rfl (by decide) ?_; clear h; intro a h) | (refine i_call hF h rfl (less_ret _ _ _) rfl (by decide) ?_; clear h; rintro _ w ⟨q, rfl, hb⟩ a h; replace H := H.call hb; clear hb)
     refine dN0 (H.sub (by repeat (first | exact ln1 | exact ls1 | exact lr1 | apply lk1 | apply List.Sublist.cons | apply la1))) ?_
     apply dQ0 hF h 13 rfl rfl (by kernel_rfl) (by decide) NoP.np (fun _ => H.sub (by repeat (first | exact ln1 | exact ls1 | exact lr1 | apply lk1 | apply List.Sublist.cons | apply la1)))
     · intro w
       refine s_pick hF h rfl rfl rfl (by decide) ?_
       intro a h
       exact ⟨rfl, h⟩
     clear h; intro a h
     first | refine d_endThen (by kernel_rfl) ?_ | refine d_endQ (by kernel_rfl) ?_
     repeat refine cS0 ?_
     refine c_condF h rfl ?_
     refine c_exit ?_
     with_reducible repeat (first | refine xa0 ?_ | refine xb0 ?_ | refine xc0 ?_ | refine xd0 ?_ | refine xe0 (by decide) ?_ | refine xf0 ?_ | refine xg0 ?_ | refine xh0 ?_ | refine xi0 ?_)
     exact ⟨j', g1, g2, g3, (h.sub (by repeat (first | exact trivial | refine ⟨rfl, ?_⟩))), H⟩
 clear h H
 rintro a w ⟨J2, k4, k5, k6, h, H⟩
 by_cases hx : J2 ≤ i2
 · repeat refine cS0 ?_
   refine cR0 ?_
   refine sM0 hF h rfl rfl (by decide) ?_
   clear h; intro a h
   refine sM0 hF h rfl rfl (by decide) ?_
   clear h; intro a h
   (first | (refine iC0 hF h rfl rfl rfl (i_gtr_t (by omega)) (by decide) ?_) | (refine iC0 hF h rfl rfl rfl (i_gtr_f (by omega)) (by decide) ?_))
   clear h; intro a h
   first | refine cEt0 ?_ | refine cE0 ?_
   repeat refine cS0 ?_
   refine c_condT h rfl ?_
   refine c_exit ?_
   with_reducible repeat (first | refine xa0 ?_ | refine xb0 ?_ | refine xc0 ?_ | refine xd0 ?_ | refine xe0 (by decide) ?_ | refine xf0 ?_ | refine xg0 ?_ | refine xh0 ?_ | refine xi0 ?_)
   repeat refine cS0 ?_
   refine cR0 ?_
   refine sM0 hF h rfl rfl (by decide) ?_
   clear h; intro a h
   refine sA0 hF h rfl rfl (by decide) ?_
   clear h; intro a h
   first | refine cEt0 ?_ | refine cE0 ?_
   refine c_ret ?_
   with_reducible repeat (first | refine xa0 ?_ | refine xb0 ?_ | refine xc0 ?_ | refine xd0 ?_ | refine xe0 (by decide) ?_ | refine xf0 ?_ | refine xg0 ?_ | refine xh0 ?_ | refine xi0 ?_)
   refine leave (fn := Tryz.f114) h Tryz.results114 (.tmp rfl (.nil)) ?_
   exact ⟨_, rfl, ⟨i2, rfl, by omega, by omega⟩, l', hp, H⟩
 · repeat refine cS0 ?_
   refine cR0 ?_
   refine sM0 hF h rfl rfl (by decide) ?_
   clear h; intro a h
   refine sM0 hF h rfl rfl (by decide) ?_
   clear h; intro a h
   (first | (refine iC0 hF h rfl rfl rfl (i_gtr_t (by omega)) (by decide) ?_) | (refine iC0 hF h rfl rfl rfl (i_gtr_f (by omega)) (by decide) ?_))
   clear h; intro a h
   first | refine cEt0 ?_ | refine cE0 ?_
   repeat refine cS0 ?_
   refine c_condF h rfl ?_
   first | refine cKt0 ?_ | refine cK0 ?_
   repeat refine cS0 ?_
   refine d_regionL [13, 15] (by kernel_rfl) H ?_
   clear H; intro w H
   apply dQ0 hF h 0 rfl rfl (by kernel_rfl) (by decide) NoP.np (fun _ => H.sub (by repeat (first | exact ln1 | exact ls1 | exact lr1 | apply lk1 | apply List.Sublist.cons | apply la1)))
   · intro w
     refine sM0 hF h rfl rfl (by decide) ?_
     intro a h
     exact ⟨rfl, h⟩
   clear h; intro a h
   apply dQ0 hF h 1 rfl rfl (by kernel_rfl) (by decide) NoP.np (fun _ => H.sub (by repeat (first | exact ln1 | exact ls1 | exact lr1 | apply lk1 | apply List.Sublist.cons | apply la1)))
   · intro w
     refine sM0 hF h rfl rfl (by decide) ?_
     intro a h
     exact ⟨rfl, h⟩
   clear h; intro a h
   apply dQ0 hF h 2 rfl rfl (by kernel_rfl) (by decide) NoP.np (fun _ => H.sub (by repeat (first | exact ln1 | exact ls1 | exact lr1 | apply lk1 | apply List.Sublist.cons | apply la1)))
   · intro w
     refine sM0 hF h rfl rfl (by decide) ?_
     intro a h
     exact ⟨rfl, h⟩
   clear h; intro a h
   apply dQ0 hF h 3 rfl rfl (by kernel_rfl) (by decide) NoP.np (fun _ => H.sub (by repeat (first | exact ln1 | exact ls1 | exact lr1 | apply lk1 | apply List.Sublist.cons | apply la1)))
   · intro w
     refine sM0 hF h rfl rfl (by decide) ?_
     intro a h
     exact ⟨rfl, h⟩
   clear h; intro a h
   apply dQ0 hF h 4 rfl rfl (by kernel_rfl) (by decide) NoP.np (fun _ => H.sub (by repeat (first | exact ln1 | exact ls1 | exact lr1 | apply lk1 | apply List.Sublist.cons | apply la1)))
   · intro w
     refine sM0 hF h rfl rfl (by decide) ?_
     intro a h
     exact ⟨rfl, h⟩
   clear h; intro a h
   apply dQ0 hF h 5 rfl rfl (by kernel_rfl) (by decide) NoP.np (fun _ => H.sub (by repeat (first | exact ln1 | exact ls1 | exact lr1 | apply lk1 | apply List.Sublist.cons | apply la1)))
   · intro w
     refine sM0 hF h rfl rfl (by decide) ?_
     intro a h
     exact ⟨rfl, h⟩
   clear h; intro a h
   apply dQ0 hF h 6 rfl rfl (by kernel_rfl) (by decide) NoP.np (fun _ => H.sub (by repeat (first | exact ln1 | exact ls1 | exact lr1 | apply lk1 | apply List.Sublist.cons | apply la1)))
   · intro w
     refine i_idxRow hF h rfl rfl rfl (by omega) (by omega) (by decide) ?_
     intro a h
     exact ⟨rfl, h⟩
   clear h; intro a h
   apply dP0 hF h 7 rfl rfl (by kernel_rfl) (by decide) NoP.np (by kernel_rfl) (H.sub (by repeat (first | exact ln1 | exact ls1 | exact lr1 | apply lk1 | apply List.Sublist.cons | apply la1)))
   · intro w H
     refine i_loadRow hF h H rfl rfl (by repeat (first | exact mh1 | apply mt1 | apply ma1)) (by omega) (by decide) ?_
     intro a h
     exact ⟨rfl, h⟩
   clear h; intro a h
   apply dQ0 hF h 8 rfl rfl (by kernel_rfl) (by decide) NoP.np (fun _ => H.sub (by repeat (first | exact ln1 | exact ls1 | exact lr1 | apply lk1 | apply List.Sublist.cons | apply la1)))
   · intro w
     refine sM0 hF h rfl rfl (by decide) ?_
     intro a h
     exact ⟨rfl, h⟩
   clear h; intro a h
   apply dQ0 hF h 9 rfl rfl (by kernel_rfl) (by decide) NoP.np (fun _ => H.sub (by repeat (first | exact ln1 | exact ls1 | exact lr1 | apply lk1 | apply List.Sublist.cons | apply la1)))
   · intro w
     refine sM0 hF h rfl rfl (by decide) ?_
     intro a h
     exact ⟨rfl, h⟩
   clear h; intro a h
   apply dQ0 hF h 10 rfl rfl (by kernel_rfl) (by decide) NoP.np (fun _ => H.sub (by repeat (first | exact ln1 | exact ls1 | exact lr1 | apply lk1 | apply List.Sublist.cons | apply la1)))
   · intro w
     refine i_idxRow hF h rfl rfl rfl (by omega) (by omega) (by decide) ?_
     intro a h
     exact ⟨rfl, h⟩
   clear h; intro a h
   apply dP0 hF h 11 rfl rfl (by kernel_rfl) (by decide) NoP.np (by kernel_rfl) (H.sub (by repeat (first | exact ln1 | exact ls1 | exact lr1 | apply lk1 | apply List.Sublist.cons | apply la1)))
   · intro w H
     refine i_loadRow hF h H rfl rfl (by repeat (first | exact mh1 | apply mt1 | apply ma1)) (by omega) (by decide) ?_
     intro a h
     exact ⟨rfl, h⟩
   clear h; intro a h
   apply dQ0 hF h 12 rfl rfl (by kernel_rfl) (by decide) NoP.np (fun _ => H.sub (by repeat (first | exact ln1 | exact ls1 | exact lr1 | apply lk1 | apply List.Sublist.cons | apply la1)))
   · intro w
     refine i_idxRow hF h rfl rfl rfl (by omega) (by omega) (by decide) ?_
     intro a h
     exact ⟨rfl, h⟩
   clear h; intro a h
   refine dE0 13 rfl (by kernel_rfl) ?_
   refine i_storeRow hF h H rfl rfl rfl (by repeat (first | exact Upd.here | apply Upd.there | apply Upd.app)) (by (try simp only [List.length_set]); omega) ?_
   clear H; intro w H
   refine dNm0 (by kernel_rfl) ?_
   apply dQ0 hF h 14 rfl rfl (by kernel_rfl) (by decide) NoP.np (fun hh => absurd hh (by rw [show ph _ _ = true from by kernel_rfl]; decide))
   · intro w
     refine i_idxRow hF h rfl rfl rfl (by omega) (by omega) (by decide) ?_
     intro a h
     exact ⟨rfl, h⟩
   clear h; intro a h
   refine dE0 15 rfl (by kernel_rfl) ?_
   refine i_storeRow hF h H rfl rfl rfl (by repeat (first | exact Upd.here | apply Upd.there | apply Upd.app)) (by (try simp only [List.length_set]); omega) ?_
   clear H; intro w H
   refine dNm0 (by kernel_rfl) ?_
   first | refine d_endThen (by kernel_rfl) ?_ | refine d_endQ (by kernel_rfl) ?_
   have hsw := swapP (l := l') (i := (i2 : Int).toNat) (j := ((J2 : Int) - 1).toNat) (by omega) (by omega)
   repeat refine cS0 ?_
   refine cR0 ?_
   refine sM0 hF h rfl rfl (by decide) ?_
   clear h; intro a h
   refine i_ar64 hF h rfl rfl rfl rfl (by omega) (by omega) (by decide) ?_
   clear h; intro a h
   refine sA0 hF h rfl rfl (by decide) ?_
   clear h; intro a h
   first | refine cEt0 ?_ | refine cE0 ?_
   repeat refine cS0 ?_
   refine cR0 ?_
   refine sM0 hF h rfl rfl (by decide) ?_
   clear h; intro a h
   refine i_ar64 hF h rfl rfl rfl rfl (by omega) (by omega) (by decide) ?_
   clear h; intro a h
   refine sA0 hF h rfl rfl (by decide) ?_
   clear h; intro a h
   refine cE0 ?_
   with_reducible repeat (first | refine xa0 ?_ | refine xb0 ?_ | refine xc0 ?_ | refine xd0 ?_ | refine xe0 (by decide) ?_ | refine xf0 ?_ | refine xg0 ?_ | refine xh0 ?_ | refine xi0 ?_)
   refine ⟨r + 1 - (i2 + 1), by omega, i2 + 1, J2 - 1, _, rfl, by omega, by omega, by omega, by omega, by omega, hsw.trans hp, ?_, H⟩
   rw [show ((J2 - 1 : Nat) : Int) = (J2 : Int) - 1 by omega]
   exact (h.sub (by repeat (first | exact trivial | refine ⟨rfl, ?_⟩)))
theorem part_ret {n0 : Nat} {w0 : World} {b n cap : Nat} {junk : List Value} {X : List (Nat × Obj)} {l : List UInt8} {w : World} (H : St n0 w0 ((b, rowB l junk) :: X) w) (hn : l.length = n) (hn2 : n ≤ 1000000) (p r x : Nat) (h1 : p ≤ x) (h2 : x < r) (h3 : r ≤ n) :
 Rets Tryz.prog 115 [sl b n cap, int p, int r, int x] w fun v w' => (∃ (m : Nat) (q : Bool), v = .tuple #[int m, .bool q] ∧ p ≤ m ∧ m < r) ∧ Mixed n0 w0 b junk X l w' := by
 refine enter Tryz.func115 rfl (Nat.le_of_ble_eq_true rfl) ?_
 intro a h; rw [Tryz.ntmps115] at h
 have hF := Fd.wide
 repeat refine cS0 ?_
 refine cR0 ?_
 refine sA0 hF h rfl rfl (by decide) ?_
 clear h; intro a h
 refine sA0 hF h rfl rfl (by decide) ?_
 clear h; intro a h
 first | refine cEt0 ?_ | refine cE0 ?_
 repeat refine cS0 ?_
 refine d_regionL [13, 15] (by kernel_rfl) H ?_
 clear H; intro w H
 apply dQ0 hF h 0 rfl rfl (by kernel_rfl) (by decide) NoP.np (fun _ => H.sub (by repeat (first | exact ln1 | exact ls1 | exact lr1 | apply lk1 | apply List.Sublist.cons | apply la1)))
 · intro w
   refine sM0 hF h rfl rfl (by decide) ?_
   intro a h
   exact ⟨rfl, h⟩
 clear h; intro a h
 apply dQ0 hF h 1 rfl rfl (by kernel_rfl) (by decide) NoP.np (fun _ => H.sub (by repeat (first | exact ln1 | exact ls1 | exact lr1 | apply lk1 | apply List.Sublist.cons | apply la1)))
 · intro w
   refine sM0 hF h rfl rfl (by decide) ?_
   intro a h
   exact ⟨rfl, h⟩
 clear h; intro a h
 apply dQ0 hF h 2 rfl rfl (by kernel_rfl) (by decide) NoP.np (fun _ => H.sub (by repeat (first | exact ln1 | exact ls1 | exact lr1 | apply lk1 | apply List.Sublist.cons | apply la1)))
 · intro w
   refine sM0 hF h rfl rfl (by decide) ?_
   intro a h
   exact ⟨rfl, h⟩
 clear h; intro a h
 apply dQ0 hF h 3 rfl rfl (by kernel_rfl) (by decide) NoP.np (fun _ => H.sub (by repeat (first | exact ln1 | exact ls1 | exact lr1 | apply lk1 | apply List.Sublist.cons | apply la1)))
 · intro w
   refine sM0 hF h rfl rfl (by decide) ?_
   intro a h
   exact ⟨rfl, h⟩
 clear h; intro a h
 apply dQ0 hF h 4 rfl rfl (by kernel_rfl) (by decide) NoP.np (fun _ => H.sub (by repeat (first | exact ln1 | exact ls1 | exact lr1 | apply lk1 | apply List.Sublist.cons | apply la1)))
 · intro w
   refine sM0 hF h rfl rfl (by decide) ?_
   intro a h
   exact ⟨rfl, h⟩
 clear h; intro a h
 apply dQ0 hF h 5 rfl rfl (by kernel_rfl) (by decide) NoP.np (fun _ => H.sub (by repeat (first | exact ln1 | exact ls1 | exact lr1 | apply lk1 | apply List.Sublist.cons | apply la1)))
 · intro w
   refine sM0 hF h rfl rfl (by decide) ?_
   intro a h
   exact ⟨rfl, h⟩
 clear h; intro a h
 apply dQ0 hF h 6 rfl rfl (by kernel_rfl) (by decide) NoP.np (fun _ => H.sub (by repeat (first | exact ln1 | exact ls1 | exact lr1 | apply lk1 | apply List.Sublist.cons | apply la1)))
 · intro w
   refine i_idxRow hF h rfl rfl rfl (by omega) (by omega) (by decide) ?_
   intro a h
   exact ⟨rfl, h⟩
 clear h; intro a h
 apply dP0 hF h 7 rfl rfl (by kernel_rfl) (by decide) NoP.np (by kernel_rfl) (H.sub (by repeat (first | exact ln1 | exact ls1 | exact lr1 | apply lk1 | apply List.Sublist.cons | apply la1)))
 · intro w H
   refine i_loadRow hF h H rfl rfl (by repeat (first | exact mh1 | apply mt1 | apply ma1)) (by omega) (by decide) ?_
   intro a h
   exact ⟨rfl, h⟩
 clear h; intro a h
 apply dQ0 hF h 8 rfl rfl (by kernel_rfl) (by decide) NoP.np (fun _ => H.sub (by repeat (first | exact ln1 | exact ls1 | exact lr1 | apply lk1 | apply List.Sublist.cons | apply la1)))
 · intro w
   refine sM0 hF h rfl rfl (by decide) ?_
   intro a h
   exact ⟨rfl, h⟩
 clear h; intro a h
 apply dQ0 hF h 9 rfl rfl (by kernel_rfl) (by decide) NoP.np (fun _ => H.sub (by repeat (first | exact ln1 | exact ls1 | exact lr1 | apply lk1 | apply List.Sublist.cons | apply la1)))
 · intro w
   refine sM0 hF h rfl rfl (by decide) ?_
   intro a h
   exact ⟨rfl, h⟩
 clear h; intro a h
 apply dQ0 hF h 10 rfl rfl (by kernel_rfl) (by decide) NoP.np (fun _ => H.sub (by repeat (first | exact ln1 | exact ls1 | exact lr1 | apply lk1 | apply List.Sublist.cons | apply la1)))
 · intro w
   refine i_idxRow hF h rfl rfl rfl (by omega) (by omega) (by decide) ?_
   intro a h
   exact ⟨rfl, h⟩
 clear h; intro a h
 apply dP0 hF h 11 rfl rfl (by kernel_rfl) (by decide) NoP.np (by kernel_rfl) (H.sub (by repeat (first | exact ln1 | exact ls1 | exact lr1 | apply lk1 | apply List.Sublist.cons | apply la1)))
 · intro w H
   refine i_loadRow hF h H rfl rfl (by repeat (first | exact mh1 | apply mt1 | apply ma1)) (by omega) (by decide) ?_
   intro a h
   exact ⟨rfl, h⟩
 clear h; intro a h
 apply dQ0 hF h 12 rfl rfl (by kernel_rfl) (by decide) NoP.np (fun _ => H.sub (by repeat (first | exact ln1 | exact ls1 | exact lr1 | apply lk1 | apply List.Sublist.cons | apply la1)))
 · intro w
   refine i_idxRow hF h rfl rfl rfl (by omega) (by omega) (by decide) ?_
   intro a h
   exact ⟨rfl, h⟩
 clear h; intro a h
 refine dE0 13 rfl (by kernel_rfl) ?_
 refine i_storeRow hF h H rfl rfl rfl (by repeat (first | exact Upd.here | apply Upd.there | apply Upd.app)) (by (try simp only [List.length_set]); omega) ?_
 clear H; intro w H
 refine dNm0 (by kernel_rfl) ?_
 apply dQ0 hF h 14 rfl rfl (by kernel_rfl) (by decide) NoP.np (fun hh => absurd hh (by rw [show ph _ _ = true from by kernel_rfl]; decide))
 · intro w
   refine i_idxRow hF h rfl rfl rfl (by omega) (by omega) (by decide) ?_
   intro a h
   exact ⟨rfl, h⟩
 clear h; intro a h
 refine dE0 15 rfl (by kernel_rfl) ?_
 refine i_storeRow hF h H rfl rfl rfl (by repeat (first | exact Upd.here | apply Upd.there | apply Upd.app)) (by (try simp only [List.length_set]); omega) ?_
 clear H; intro w H
 refine dNm0 (by kernel_rfl) ?_
 first | refine d_endThen (by kernel_rfl) ?_ | refine d_endQ (by kernel_rfl) ?_
 have hp0 := swapP (l := l) (i := (p : Int).toNat) (j := (x : Int).toNat) (by omega) (by omega)
 repeat refine cS0 ?_
 refine cR0 ?_
 refine sM0 hF h rfl rfl (by decide) ?_
 clear h; intro a h
 refine i_ar64 hF h rfl rfl rfl rfl (by omega) (by omega) (by decide) ?_
 clear h; intro a h
 refine sM0 hF h rfl rfl (by decide) ?_
 clear h; intro a h
 refine i_ar64 hF h rfl rfl rfl rfl (by omega) (by omega) (by decide) ?_
 clear h; intro a h
 refine sA0 hF h rfl rfl (by decide) ?_
 clear h; intro a h
 refine sA0 hF h rfl rfl (by decide) ?_
 clear h; intro a h
 first | refine cEt0 ?_ | refine cE0 ?_
 obtain ⟨l', hl'⟩ : ∃ l', l' = (l.set (p : Int).toNat (l.getD (x : Int).toNat 0)).set (x : Int).toNat (l.getD (p : Int).toNat 0) := ⟨_, rfl⟩
 rw [← hl'] at H hp0
 clear hl'
 have hp := hp0
 clear hp0
 have hlen := hp.length_eq
 rw [hn] at hlen
 replace h : Fr 168 [] [(10, int (p + 1 : Nat)), (11, int ((r : Nat) - 1)), (0, sl b n cap), (1, int p)] _ := (h.sub (by repeat (first | exact trivial | refine ⟨rfl, ?_⟩)))
 repeat refine cS0 ?_
 refine c_join (fun a' w' => ∃ i', (p + 1) ≤ i' ∧ i' ≤ r + 1 ∧ i' ≤ r ∧ Fr 168 [] [(10, int (i' : Nat)), (11, int ((r : Nat) - 1)), (0, sl b n cap), (1, int p)] a' ∧ St n0 w0 ((b, rowB l' junk) :: X) w') ?_ ?_
 · refine c_block ?_
   refine c_loopN (fun k a' w' => ∃ i', k = r - i' ∧ (p + 1) ≤ i' ∧ i' ≤ r + 1 ∧ i' ≤ r ∧ Fr 168 [] [(10, int (i' : Nat)), (11, int ((r : Nat) - 1)), (0, sl b n cap), (1, int p)] a' ∧ St n0 w0 ((b, rowB l' junk) :: X) w') (r - (p + 1)) ⟨(p + 1), rfl, by omega, by omega, by omega, (h.sub (by repeat (first | exact trivial | refine ⟨rfl, ?_⟩))), H⟩ ?_
   clear h H
   rintro k a w ⟨i', rfl, g1, g2, g3, h, H⟩
   by_cases hi : i' < r
   · repeat refine cS0 ?_
     refine d_regionL [] (by kernel_rfl) H ?_
     clear H; intro w H
     apply dQ0 hF h 0 rfl rfl (by kernel_rfl) (by decide) NoP.np (fun _ => H.sub (by repeat (first | exact ln1 | exact ls1 | exact lr1 | apply lk1 | apply List.Sublist.cons | apply la1)))
     · intro w
       refine sM0 hF h rfl rfl (by decide) ?_
       intro a h
       exact ⟨rfl, h⟩
     clear h; intro a h
     apply dQ0 hF h 1 rfl rfl (by kernel_rfl) (by decide) NoP.np (fun _ => H.sub (by repeat (first | exact ln1 | exact ls1 | exact lr1 | apply lk1 | apply List.Sublist.cons | apply la1)))
     · intro w
       refine sM0 hF h rfl rfl (by decide) ?_
       intro a h
       exact ⟨rfl, h⟩
     clear h; intro a h
     apply dQ0 hF h 2 rfl rfl (by kernel_rfl) (by decide) NoP.np (fun _ => H.sub (by repeat (first | exact ln1 | exact ls1 | exact lr1 | apply lk1 | apply List.Sublist.cons | apply la1)))
     · intro w
       (first | (refine iC0 hF h rfl rfl rfl (i_leq_t (by omega)) (by decide) ?_) | (refine iC0 hF h rfl rfl rfl (i_leq_f (by omega)) (by decide) ?_))
       intro a h
       exact ⟨rfl, h⟩
     clear h; intro a h
     apply dQ0 hF h 3 rfl rfl (by kernel_rfl) (by decide) NoP.np (fun _ => H.sub (by repeat (first | exact ln1 | exact ls1 | exact lr1 | apply lk1 | apply List.Sublist.cons | apply la1)))
     · intro w
       refine sM0 hF h rfl rfl (by decide) ?_
       intro a h
       exact ⟨rfl, h⟩
     clear h; intro a h
     apply dQ0 hF h 4 rfl rfl (by kernel_rfl) (by decide) NoP.np (fun _ => H.sub (by repeat (first | exact ln1 | exact ls1 | exact lr1 | apply lk1 | apply List.Sublist.cons | apply la1)))
     · intro w
       first | (refine sK0 hF h rfl (by decide) ?_; intro a h) | (refine sM0 hF h rfl rfl (by decide) ?_; intro a h)
       exact ⟨rfl, h⟩
     clear h; intro a h
     apply dQ0 hF h 5 rfl rfl (by kernel_rfl) (by decide) NoP.np (fun _ => H.sub (by repeat (first | exact ln1 | exact ls1 | exact lr1 | apply lk1 | apply List.Sublist.cons | apply la1)))
     · intro w
       first | (refine sK0 hF h rfl (by decide) ?_; intro a h) | (refine sM0 hF h rfl rfl (by decide) ?_; intro a h)
       exact ⟨rfl, h⟩
     clear h; intro a h
     apply dQ0 hF h 6 rfl rfl (by kernel_rfl) (by decide) NoP.np (fun _ => H.sub (by repeat (first | exact ln1 | exact ls1 | exact lr1 | apply lk1 | apply List.Sublist.cons | apply la1)))
     · intro w
       first | (refine sK0 hF h rfl (by decide) ?_; intro a h) | (refine i_idxRow hF h rfl rfl rfl (by omega) (by omega) (by decide) ?_; intro a h)
       exact ⟨rfl, h⟩
     clear h; intro a h
     apply dP0 hF h 7 rfl rfl (by kernel_rfl) (by decide) NoP.np (by kernel_rfl) (H.sub (by repeat (first | exact ln1 | exact ls1 | exact lr1 | apply lk1 | apply List.Sublist.cons | apply la1)))
     · intro w H
       first | (refine sK0 hF h rfl (by decide) ?_; intro a h) | (refine i_loadRow hF h H rfl rfl (by repeat (first | exact mh1 | apply mt1 | apply ma1)) (by omega) (by decide) ?_; intro a h)
       exact ⟨rfl, h⟩
     clear h; intro a h
     apply dQ0 hF h 8 rfl rfl (by kernel_rfl) (by decide) NoP.np (fun _ => H.sub (by repeat (first | exact ln1 | exact ls1 | exact lr1 | apply lk1 | apply List.Sublist.cons | apply la1)))
     · intro w
       first | (refine sK0 hF h rfl (by decide) ?_; intro a h) | (refine sM0 hF h rfl rfl (by decide) ?_; intro a h)
       exact ⟨rfl, h⟩
     clear h; intro a h
     apply dQ0 hF h 9 rfl rfl (by kernel_rfl) (by decide) NoP.np (fun _ => H.sub (by repeat (first | exact ln1 | exact ls1 | exact lr1 | apply lk1 | apply List.Sublist.cons | apply la1)))
     · intro w
       first | (refine sK0 hF h rfl (by decide) ?_; intro a h) | (refine sM0 hF h rfl rfl (by decide) ?_; intro a h)
       exact ⟨rfl, h⟩
     clear h; intro a h
     apply dQ0 hF h 10 rfl rfl (by kernel_rfl) (by decide) NoP.np (fun _ => H.sub (by repeat (first | exact ln1 | exact ls1 | exact lr1 | apply lk1 | apply List.Sublist.cons | apply la1)))
     · intro w
       first | (refine sK0 hF h rfl (by decide) ?_; intro a h) | (refine i_idxRow hF h rfl rfl rfl (by omega) (by omega) (by decide) ?_; intro a h)
       exact ⟨rfl, h⟩
     clear h; intro a h
     apply dP0 hF h 11 rfl rfl (by kernel_rfl) (by decide) NoP.np (by kernel_rfl) (H.sub (by repeat (first | exact ln1 | exact ls1 | exact lr1 | apply lk1 | apply List.Sublist.cons | apply la1)))
     · intro w H
       first | (refine sK0 hF h rfl (by decide) ?_; intro a h) | (refine i_loadRow hF h H rfl rfl (by repeat (first | exact mh1 | apply mt1 | apply ma1)) (by omega) (by decide) ?_; intro a h)
       exact ⟨rfl, h⟩
     clear h; intro a h
     refine dE0 12 rfl (by kernel_rfl) ?_
     first | (refine sK0 hF h rfl (by decide) ?_; clear h; intro a h) | (refine i_call hF h rfl (less_ret _ _ _) rfl (by decide) ?_; clear h; rintro _ w ⟨q, rfl, hb⟩ a h; replace H := H.call hb; clear hb)
     refine dN0 (H.sub (by repeat (first | exact ln1 | exact ls1 | exact lr1 | apply lk1 | apply List.Sublist.cons | apply la1))) ?_
     apply dQ0 hF h 13 rfl rfl (by kernel_rfl) (by decide) NoP.np (fun _ => H.sub (by repeat (first | exact ln1 | exact ls1 | exact lr1 | apply lk1 | apply List.Sublist.cons | apply la1)))
     · intro w
       refine s_pick hF h rfl rfl rfl (by decide) ?_
       intro a h
       exact ⟨rfl, h⟩
     clear h; intro a h
     first | refine d_endThen (by kernel_rfl) ?_ | refine d_endQ (by kernel_rfl) ?_
     cases q
     · -- q = false
       repeat refine cS0 ?_
       refine c_condF h rfl ?_
       refine c_exit ?_
       with_reducible repeat (first | refine xa0 ?_ | refine xb0 ?_ | refine xc0 ?_ | refine xd0 ?_ | refine xe0 (by decide) ?_ | refine xf0 ?_ | refine xg0 ?_ | refine xh0 ?_ | refine xi0 ?_)
       exact ⟨i', g1, g2, g3, (h.sub (by repeat (first | exact trivial | refine ⟨rfl, ?_⟩))), H⟩
     · -- q = true
       repeat refine cS0 ?_
       refine c_condT h rfl ?_
       first | refine cKt0 ?_ | refine cK0 ?_
       refine c_block ?_
       repeat refine cS0 ?_
       refine cR0 ?_
       refine sM0 hF h rfl rfl (by decide) ?_
       clear h; intro a h
       refine i_ar64 hF h rfl rfl rfl rfl (by omega) (by omega) (by decide) ?_
       clear h; intro a h
       refine sA0 hF h rfl rfl (by decide) ?_
       clear h; intro a h
       refine cE0 ?_
       with_reducible repeat (first | refine xa0 ?_ | refine xb0 ?_ | refine xc0 ?_ | refine xd0 ?_ | refine xe0 (by decide) ?_ | refine xf0 ?_ | refine xg0 ?_ | refine xh0 ?_ | refine xi0 ?_)
       refine ⟨r - (i' + 1), by omega, i' + 1, rfl, by omega, by omega, by omega, ?_, H⟩
       exact (h.sub (by repeat (first | exact trivial | refine ⟨rfl, ?_⟩)))
   · repeat refine cS0 ?_
     refine d_regionL [] (by kernel_rfl) H ?_
     clear H; intro w H
     apply dQ0 hF h 0 rfl rfl (by kernel_rfl) (by decide) NoP.np (fun _ => H.sub (by repeat (first | exact ln1 | exact ls1 | exact lr1 | apply lk1 | apply List.Sublist.cons | apply la1)))
     · intro w
       refine sM0 hF h rfl rfl (by decide) ?_
       intro a h
       exact ⟨rfl, h⟩
     clear h; intro a h
     apply dQ0 hF h 1 rfl rfl (by kernel_rfl) (by decide) NoP.np (fun _ => H.sub (by repeat (first | exact ln1 | exact ls1 | exact lr1 | apply lk1 | apply List.Sublist.cons | apply la1)))
     · intro w
       refine sM0 hF h rfl rfl (by decide) ?_
       intro a h
       exact ⟨rfl, h⟩
     clear h; intro a h
     apply dQ0 hF h 2 rfl rfl (by kernel_rfl) (by decide) NoP.np (fun _ => H.sub (by repeat (first | exact ln1 | exact ls1 | exact lr1 | apply lk1 | apply List.Sublist.cons | apply la1)))
     · intro w
       (first | (refine iC0 hF h rfl rfl rfl (i_leq_t (by omega)) (by decide) ?_) | (refine iC0 hF h rfl rfl rfl (i_leq_f (by omega)) (by decide) ?_))
       intro a h
       exact ⟨rfl, h⟩
     clear h; intro a h
     apply dQ0 hF h 3 rfl rfl (by kernel_rfl) (by decide) NoP.np (fun _ => H.sub (by repeat (first | exact ln1 | exact ls1 | exact lr1 | apply lk1 | apply List.Sublist.cons | apply la1)))
     · intro w
       refine sM0 hF h rfl rfl (by decide) ?_
       intro a h
       exact ⟨rfl, h⟩
     clear h; intro a h
     apply dQ0 hF h 4 rfl rfl (by kernel_rfl) (by decide) NoP.np (fun _ => H.sub (by repeat (first | exact ln1 | exact ls1 | exact lr1 | apply lk1 | apply List.Sublist.cons | apply la1)))
     · intro w
       first | (refine sK0 hF h rfl (by decide) ?_; intro a h) | (refine sM0 hF h rfl rfl (by decide) ?_; intro a h)
       exact ⟨rfl, h⟩
     clear h; intro a h
     apply dQ0 hF h 5 rfl rfl (by kernel_rfl) (by decide) NoP.np (fun _ => H.sub (by repeat (first | exact ln1 | exact ls1 | exact lr1 | apply lk1 | apply List.Sublist.cons | apply la1)))
     · intro w
       first | (refine sK0 hF h rfl (by decide) ?_; intro a h) | (refine sM0 hF h rfl rfl (by decide) ?_; intro a h)
       exact ⟨rfl, h⟩
     clear h; intro a h
     apply dQ0 hF h 6 rfl rfl (by kernel_rfl) (by decide) NoP.np (fun _ => H.sub (by repeat (first | exact ln1 | exact ls1 | exact lr1 | apply lk1 | apply List.Sublist.cons | apply la1)))
     · intro w
       first | (refine sK0 hF h rfl (by decide) ?_; intro a h) | (refine i_idxRow hF h rfl rfl rfl (by omega) (by omega) (by decide) ?_; intro a h)
       exact ⟨rfl, h⟩
     clear h; intro a h
     apply dP0 hF h 7 rfl rfl (by kernel_rfl) (by decide) NoP.np (by kernel_rfl) (H.sub (by repeat (first | exact ln1 | exact ls1 | exact lr1 | apply lk1 | apply List.Sublist.cons | apply la1)))
     · intro w H
       first | (refine sK0 hF h rfl (by decide) ?_; intro a h) | (refine i_loadRow hF h H rfl rfl (by repeat (first | exact mh1 | apply mt1 | apply ma1)) (by omega) (by decide) ?_; intro a h)
       exact ⟨rfl, h⟩
     clear h; intro a h
     apply dQ0 hF h 8 rfl rfl (by kernel_rfl) (by decide) NoP.np (fun _ => H.sub (by repeat (first | exact ln1 | exact ls1 | exact lr1 | apply lk1 | apply List.Sublist.cons | apply la1)))
     · intro w
       first | (refine sK0 hF h rfl (by decide) ?_; intro a h) | (refine sM0 hF h rfl rfl (by decide) ?_; intro a h)
       exact ⟨rfl, h⟩
     clear h; intro a h
     apply dQ0 hF h 9 rfl rfl (by kernel_rfl) (by decide) NoP.np (fun _ => H.sub (by repeat (first | exact ln1 | exact ls1 | exact lr1 | apply lk1 | apply List.Sublist.cons | apply la1)))
     · intro w
       first | (refine sK0 hF h rfl (by decide) ?_; intro a h) | (refine sM0 hF h rfl rfl (by decide) ?_; intro a h)
       exact ⟨rfl, h⟩
     clear h; intro a h
     apply dQ0 hF h 10 rfl rfl (by kernel_rfl) (by decide) NoP.np (fun _ => H.sub (by repeat (first | exact ln1 | exact ls1 | exact lr1 | apply lk1 | apply List.Sublist.cons | apply la1)))
     · intro w
       first | (refine sK0 hF h rfl (by decide) ?_; intro a h) | (refine i_idxRow hF h rfl rfl rfl (by omega) (by omega) (by decide) ?_; intro a h)
       exact ⟨rfl, h⟩
     clear h; intro a h
     apply dP0 hF h 11 rfl rfl (by kernel_rfl) (by decide) NoP.np (by kernel_rfl) (H.sub (by repeat (first | exact ln1 | exact ls1 | exact lr1 | apply lk1 | apply List.Sublist.cons | apply la1)))
     · intro w H
       first | (refine sK0 hF h rfl (by decide) ?_; intro a h) | (refine i_loadRow hF h H rfl rfl (by repeat (first | exact mh1 | apply mt1 | apply ma1)) (by omega) (by decide) ?_; intro a h)
       exact ⟨rfl, h⟩
     clear h; intro a h
     refine dE0 12 rfl (by kernel_rfl) ?_
     first | (refine sK0 hF h rfl (by decide) ?_; clear h; intro a h) | (refine i_call hF h rfl (less_ret _ _ _) rfl (by decide) ?_; clear h; rintro _ w ⟨q, rfl, hb⟩ a h; replace H := H.call hb; clear hb)
     refine dN0 (H.sub (by repeat (first | exact ln1 | exact ls1 | exact lr1 | apply lk1 | apply List.Sublist.cons | apply la1))) ?_
     apply dQ0 hF h 13 rfl rfl (by kernel_rfl) (by decide) NoP.np (fun _ => H.sub (by repeat (first | exact ln1 | exact ls1 | exact lr1 | apply lk1 | apply List.Sublist.cons | apply la1)))
     · intro w
       refine s_pick hF h rfl rfl rfl (by decide) ?_
       intro a h
       exact ⟨rfl, h⟩
     clear h; intro a h
     first | refine d_endThen (by kernel_rfl) ?_ | refine d_endQ (by kernel_rfl) ?_
     repeat refine cS0 ?_
     refine c_condF h rfl ?_
     refine c_exit ?_
     with_reducible repeat (first | refine xa0 ?_ | refine xb0 ?_ | refine xc0 ?_ | refine xd0 ?_ | refine xe0 (by decide) ?_ | refine xf0 ?_ | refine xg0 ?_ | refine xh0 ?_ | refine xi0 ?_)
     exact ⟨i', g1, g2, g3, (h.sub (by repeat (first | exact trivial | refine ⟨rfl, ?_⟩))), H⟩
 clear h H
 rintro a w ⟨i, k1, k2, k3, h, H⟩
 repeat refine cS0 ?_
 refine c_join (fun a' w' => ∃ j', j' ≤ r ∧ p + 1 ≤ j' ∧ i ≤ j' + 1 ∧ Fr 168 [] [(10, int (i : Nat)), (11, int ((j' : Nat) - 1)), (0, sl b n cap), (1, int p)] a' ∧ St n0 w0 ((b, rowB l' junk) :: X) w') ?_ ?_
 · refine c_block ?_
   refine c_loopN (fun k a' w' => ∃ j', j' = k ∧ j' ≤ r ∧ p + 1 ≤ j' ∧ i ≤ j' + 1 ∧ Fr 168 [] [(10, int (i : Nat)), (11, int ((j' : Nat) - 1)), (0, sl b n cap), (1, int p)] a' ∧ St n0 w0 ((b, rowB l' junk) :: X) w') (r) ⟨r, rfl, by omega, by omega, by omega, (h.sub (by repeat (first | exact trivial | refine ⟨rfl, ?_⟩))), H⟩ ?_
   clear h H
   rintro k a w ⟨j', rfl, g1, g2, g3, h, H⟩
   by_cases hi : i < j'
   · repeat refine cS0 ?_
     refine d_regionL [] (by kernel_rfl) H ?_
     clear H; intro w H
     apply dQ0 hF h 0 rfl rfl (by kernel_rfl) (by decide) NoP.np (fun _ => H.sub (by repeat (first | exact ln1 | exact ls1 | exact lr1 | apply lk1 | apply List.Sublist.cons | apply la1)))
     · intro w
       refine sM0 hF h rfl rfl (by decide) ?_
       intro a h
       exact ⟨rfl, h⟩
     clear h; intro a h
     apply dQ0 hF h 1 rfl rfl (by kernel_rfl) (by decide) NoP.np (fun _ => H.sub (by repeat (first | exact ln1 | exact ls1 | exact lr1 | apply lk1 | apply List.Sublist.cons | apply la1)))
     · intro w
       refine sM0 hF h rfl rfl (by decide) ?_
       intro a h
       exact ⟨rfl, h⟩
     clear h; intro a h
     apply dQ0 hF h 2 rfl rfl (by kernel_rfl) (by decide) NoP.np (fun _ => H.sub (by repeat (first | exact ln1 | exact ls1 | exact lr1 | apply lk1 | apply List.Sublist.cons | apply la1)))
     · intro w
       (first | (refine iC0 hF h rfl rfl rfl (i_leq_t (by omega)) (by decide) ?_) | (refine iC0 hF h rfl rfl rfl (i_leq_f (by omega)) (by decide) ?_))
       intro a h
       exact ⟨rfl, h⟩
     clear h; intro a h
     apply dQ0 hF h 3 rfl rfl (by kernel_rfl) (by decide) NoP.np (fun _ => H.sub (by repeat (first | exact ln1 | exact ls1 | exact lr1 | apply lk1 | apply List.Sublist.cons | apply la1)))
     · intro w
       refine sM0 hF h rfl rfl (by decide) ?_
       intro a h
       exact ⟨rfl, h⟩
     clear h; intro a h
     apply dQ0 hF h 4 rfl rfl (by kernel_rfl) (by decide) NoP.np (fun _ => H.sub (by repeat (first | exact ln1 | exact ls1 | exact lr1 | apply lk1 | apply List.Sublist.cons | apply la1)))
     · intro w
       first | (refine sK0 hF h rfl (by decide) ?_; intro a h) | (refine sM0 hF h rfl rfl (by decide) ?_; intro a h)
       exact ⟨rfl, h⟩
     clear h; intro a h
     apply dQ0 hF h 5 rfl rfl (by kernel_rfl) (by decide) NoP.np (fun _ => H.sub (by repeat (first | exact ln1 | exact ls1 | exact lr1 | apply lk1 | apply List.Sublist.cons | apply la1)))
     · intro w
       first | (refine sK0 hF h rfl (by decide) ?_; intro a h) | (refine sM0 hF h rfl rfl (by decide) ?_; intro a h)
       exact ⟨rfl, h⟩
     clear h; intro a h
     apply dQ0 hF h 6 rfl rfl (by kernel_rfl) (by decide) NoP.np (fun _ => H.sub (by repeat (first | exact ln1 | exact ls1 | exact lr1 | apply lk1 | apply List.Sublist.cons | apply la1)))
     · intro w
       first | (refine sK0 hF h rfl (by decide) ?_; intro a h) | (refine i_idxRow hF h rfl rfl rfl (by omega) (by omega) (by decide) ?_; intro a h)
       exact ⟨rfl, h⟩
     clear h; intro a h
     apply dP0 hF h 7 rfl rfl (by kernel_rfl) (by decide) NoP.np (by kernel_rfl) (H.sub (by repeat (first | exact ln1 | exact ls1 | exact lr1 | apply lk1 | apply List.Sublist.cons | apply la1)))
     · intro w H
       first | (refine sK0 hF h rfl (by decide) ?_; intro a h) | (refine i_loadRow hF h H rfl rfl (by repeat (first | exact mh1 | apply mt1 | apply ma1)) (by omega) (by decide) ?_; intro a h)
       exact ⟨rfl, h⟩
     clear h; intro a h
     apply dQ0 hF h 8 rfl rfl (by kernel_rfl) (by decide) NoP.np (fun _ => H.sub (by repeat (first | exact ln1 | exact ls1 | exact lr1 | apply lk1 | apply List.Sublist.cons | apply la1)))
     · intro w
       first | (refine sK0 hF h rfl (by decide) ?_; intro a h) | (refine sM0 hF h rfl rfl (by decide) ?_; intro a h)
       exact ⟨rfl, h⟩
     clear h; intro a h
     apply dQ0 hF h 9 rfl rfl (by kernel_rfl) (by decide) NoP.np (fun _ => H.sub (by repeat (first | exact ln1 | exact ls1 | exact lr1 | apply lk1 | apply List.Sublist.cons | apply la1)))
     · intro w
       first | (refine sK0 hF h rfl (by decide) ?_; intro a h) | (refine sM0 hF h rfl rfl (by decide) ?_; intro a h)
       exact ⟨rfl, h⟩
     clear h; intro a h
     apply dQ0 hF h 10 rfl rfl (by kernel_rfl) (by decide) NoP.np (fun _ => H.sub (by repeat (first | exact ln1 | exact ls1 | exact lr1 | apply lk1 | apply List.Sublist.cons | apply la1)))
     · intro w
       first | (refine sK0 hF h rfl (by decide) ?_; intro a h) | (refine i_idxRow hF h rfl rfl rfl (by omega) (by omega) (by decide) ?_; intro a h)
       exact ⟨rfl, h⟩
     clear h; intro a h
     apply dP0 hF h 11 rfl rfl (by kernel_rfl) (by decide) NoP.np (by kernel_rfl) (H.sub (by repeat (first | exact ln1 | exact ls1 | exact lr1 | apply lk1 | apply List.Sublist.cons | apply la1)))
     · intro w H
       first | (refine sK0 hF h rfl (by decide) ?_; intro a h) | (refine i_loadRow hF h H rfl rfl (by repeat (first | exact mh1 | apply mt1 | apply ma1)) (by omega) (by decide) ?_; intro a h)
       exact ⟨rfl, h⟩
     clear h; intro a h
     refine dE0 12 rfl (by kernel_rfl) ?_
     first | (refine sK0 hF h rfl (by decide) ?_; clear h; intro a h) | (refine i_call hF h rfl (less_ret _ _ _) rfl (by decide) ?_; clear h; rintro _ w ⟨q, rfl, hb⟩ a h; replace H := H.call hb; clear hb)
     refine dN0 (H.sub (by repeat (first | exact ln1 | exact ls1 | exact lr1 | apply lk1 | apply List.Sublist.cons | apply la1))) ?_
     apply dQ0 hF h 13 rfl rfl (by kernel_rfl) (by decide) NoP.np (fun _ => H.sub (by repeat (first | exact ln1 | exact ls1 | exact lr1 | apply lk1 | apply List.Sublist.cons | apply la1)))
     · intro w
       first | (refine sK0 hF h rfl (by decide) ?_; intro a h) | (refine i_not hF h rfl rfl (by decide) ?_; intro a h; try simp only [Bool.not_true, Bool.not_false] at h)
       exact ⟨rfl, h⟩
     clear h; intro a h
     apply dQ0 hF h 14 rfl rfl (by kernel_rfl) (by decide) NoP.np (fun _ => H.sub (by repeat (first | exact ln1 | exact ls1 | exact lr1 | apply lk1 | apply List.Sublist.cons | apply la1)))
     · intro w
       refine s_pick hF h rfl rfl rfl (by decide) ?_
       intro a h
       exact ⟨rfl, h⟩
     clear h; intro a h
     first | refine d_endThen (by kernel_rfl) ?_ | refine d_endQ (by kernel_rfl) ?_
     cases q
     · -- q = false
       repeat refine cS0 ?_
       refine c_condT h rfl ?_
       first | refine cKt0 ?_ | refine cK0 ?_
       refine c_block ?_
       repeat refine cS0 ?_
       refine cR0 ?_
       refine sM0 hF h rfl rfl (by decide) ?_
       clear h; intro a h
       refine i_ar64 hF h rfl rfl rfl rfl (by omega) (by omega) (by decide) ?_
       clear h; intro a h
       refine sA0 hF h rfl rfl (by decide) ?_
       clear h; intro a h
       refine cE0 ?_
       with_reducible repeat (first | refine xa0 ?_ | refine xb0 ?_ | refine xc0 ?_ | refine xd0 ?_ | refine xe0 (by decide) ?_ | refine xf0 ?_ | refine xg0 ?_ | refine xh0 ?_ | refine xi0 ?_)
       refine ⟨(j' - 1), by omega, j' - 1, rfl, by omega, by omega, by omega, ?_, H⟩
       rw [show ((j' - 1 : Nat) : Int) = (j' : Int) - 1 by omega]
       exact (h.sub (by repeat (first | exact trivial | refine ⟨rfl, ?_⟩)))
     · -- q = true
       repeat refine cS0 ?_
       refine c_condF h rfl ?_
       refine c_exit ?_
       with_reducible repeat (first | refine xa0 ?_ | refine xb0 ?_ | refine xc0 ?_ | refine xd0 ?_ | refine xe0 (by decide) ?_ | refine xf0 ?_ | refine xg0 ?_ | refine xh0 ?_ | refine xi0 ?_)
       exact ⟨j', g1, g2, g3, (h.sub (by repeat (first | exact trivial | refine ⟨rfl, ?_⟩))), H⟩
   · repeat refine cS0 ?_
     refine d_regionL [] (by kernel_rfl) H ?_
     clear H; intro w H
     apply dQ0 hF h 0 rfl rfl (by kernel_rfl) (by decide) NoP.np (fun _ => H.sub (by repeat (first | exact ln1 | exact ls1 | exact lr1 | apply lk1 | apply List.Sublist.cons | apply la1)))
     · intro w
       refine sM0 hF h rfl rfl (by decide) ?_
       intro a h
       exact ⟨rfl, h⟩
     clear h; intro a h
     apply dQ0 hF h 1 rfl rfl (by kernel_rfl) (by decide) NoP.np (fun _ => H.sub (by repeat (first | exact ln1 | exact ls1 | exact lr1 | apply lk1 | apply List.Sublist.cons | apply la1)))
     · intro w
       refine sM0 hF h rfl rfl (by decide) ?_
       intro a h
       exact ⟨rfl, h⟩
     clear h; intro a h
     apply dQ0 hF h 2 rfl rfl (by kernel_rfl) (by decide) NoP.np (fun _ => H.sub (by repeat (first | exact ln1 | exact ls1 | exact lr1 | apply lk1 | apply List.Sublist.cons | apply la1)))
     · intro w
       (first | (refine iC0 hF h rfl rfl rfl (i_leq_t (by omega)) (by decide) ?_) | (refine iC0 hF h rfl rfl rfl (i_leq_f (by omega)) (by decide) ?_))
       intro a h
       exact ⟨rfl, h⟩
     clear h; intro a h
     apply dQ0 hF h 3 rfl rfl (by kernel_rfl) (by decide) NoP.np (fun _ => H.sub (by repeat (first | exact ln1 | exact ls1 | exact lr1 | apply lk1 | apply List.Sublist.cons | apply la1)))
     · intro w
       refine sM0 hF h rfl rfl (by decide) ?_
       intro a h
       exact ⟨rfl, h⟩
     clear h; intro a h
     apply dQ0 hF h 4 rfl rfl (by kernel_rfl) (by decide) NoP.np (fun _ => H.sub (by repeat (first | exact ln1 | exact ls1 | exact lr1 | apply lk1 | apply List.Sublist.cons | apply la1)))
     · intro w
       first | (refine sK0 hF h rfl (by decide) ?_; intro a h) | (refine sM0 hF h rfl rfl (by decide) ?_; intro a h)
       exact ⟨rfl, h⟩
     clear h; intro a h
     apply dQ0 hF h 5 rfl rfl (by kernel_rfl) (by decide) NoP.np (fun _ => H.sub (by repeat (first | exact ln1 | exact ls1 | exact lr1 | apply lk1 | apply List.Sublist.cons | apply la1)))
     · intro w
       first | (refine sK0 hF h rfl (by decide) ?_; intro a h) | (refine sM0 hF h rfl rfl (by decide) ?_; intro a h)
       exact ⟨rfl, h⟩
     clear h; intro a h
     apply dQ0 hF h 6 rfl rfl (by kernel_rfl) (by decide) NoP.np (fun _ => H.sub (by repeat (first | exact ln1 | exact ls1 | exact lr1 | apply lk1 | apply List.Sublist.cons | apply la1)))
     · intro w
       first | (refine sK0 hF h rfl (by decide) ?_; intro a h) | (refine i_idxRow hF h rfl rfl rfl (by omega) (by omega) (by decide) ?_; intro a h)
       exact ⟨rfl, h⟩
     clear h; intro a h
     apply dP0 hF h 7 rfl rfl (by kernel_rfl) (by decide) NoP.np (by kernel_rfl) (H.sub (by repeat (first | exact ln1 | exact ls1 | exact lr1 | apply lk1 | apply List.Sublist.cons | apply la1)))
     · intro w H
       first | (refine sK0 hF h rfl (by decide) ?_; intro a h) | (refine i_loadRow hF h H rfl rfl (by repeat (first | exact mh1 | apply mt1 | apply ma1)) (by omega) (by decide) ?_; intro a h)
       exact ⟨rfl, h⟩
     clear h; intro a h
     apply dQ0 hF h 8 rfl rfl (by kernel_rfl) (by decide) NoP.np (fun _ => H.sub (by repeat (first | exact ln1 | exact ls1 | exact lr1 | apply lk1 | apply List.Sublist.cons | apply la1)))
     · intro w
       first | (refine sK0 hF h rfl (by decide) ?_; intro a h) | (refine sM0 hF h rfl rfl (by decide) ?_; intro a h)
       exact ⟨rfl, h⟩
     clear h; intro a h
     apply dQ0 hF h 9 rfl rfl (by kernel_rfl) (by decide) NoP.np (fun _ => H.sub (by repeat (first | exact ln1 | exact ls1 | exact lr1 | apply lk1 | apply List.Sublist.cons | apply la1)))
     · intro w
       first | (refine sK0 hF h rfl (by decide) ?_; intro a h) | (refine sM0 hF h rfl rfl (by decide) ?_; intro a h)
       exact ⟨rfl, h⟩
     clear h; intro a h
     apply dQ0 hF h 10 rfl rfl (by kernel_rfl) (by decide) NoP.np (fun _ => H.sub (by repeat (first | exact ln1 | exact ls1 | exact lr1 | apply lk1 | apply List.Sublist.cons | apply la1)))
     · intro w
       first | (refine sK0 hF h rfl (by decide) ?_; intro a h) | (refine i_idxRow hF h rfl rfl rfl (by omega) (by omega) (by decide) ?_; intro a h)
       exact ⟨rfl, h⟩
     clear h; intro a h
     apply dP0 hF h 11 rfl rfl (by kernel_rfl) (by decide) NoP.np (by kernel_rfl) (H.sub (by repeat (first | exact ln1 | exact ls1 | exact lr1 | apply lk1 | apply List.Sublist.cons | apply la1)))
     · intro w H
       first | (refine sK0 hF h rfl (by decide) ?_; intro a h) | (refine i_loadRow hF h H rfl rfl (by repeat (first | exact mh1 | apply mt1 | apply ma1)) (by omega) (by decide) ?_; intro a h)
       exact ⟨rfl, h⟩
     clear h; intro a h
     refine dE0 12 rfl (by kernel_rfl) ?_
     first | (refine sK0 hF h rfl (by decide) ?_; clear h; intro a h) | (refine i_call hF h rfl (less_ret _ _ _) rfl (by decide) ?_; clear h; rintro _ w ⟨q, rfl, hb⟩ a h; replace H := H.call hb; clear hb)
     refine dN0 (H.sub (by repeat (first | exact ln1 | exact ls1 | exact lr1 | apply lk1 | apply List.Sublist.cons | apply la1))) ?_
     apply dQ0 hF h 13 rfl rfl (by kernel_rfl) (by decide) NoP.np (fun _ => H.sub (by repeat (first | exact ln1 | exact ls1 | exact lr1 | apply lk1 | apply List.Sublist.cons | apply la1)))
     · intro w
       first | (refine sK0 hF h rfl (by decide) ?_; intro a h) | (refine i_not hF h rfl rfl (by decide) ?_; intro a h; try simp only [Bool.not_true, Bool.not_false] at h)
       exact ⟨rfl, h⟩
     clear h; intro a h
     apply dQ0 hF h 14 rfl rfl (by kernel_rfl) (by decide) NoP.np (fun _ => H.sub (by repeat (first | exact ln1 | exact ls1 | exact lr1 | apply lk1 | apply List.Sublist.cons | apply la1)))
     · intro w
       refine s_pick hF h rfl rfl rfl (by decide) ?_
       intro a h
       exact ⟨rfl, h⟩
     clear h; intro a h
     first | refine d_endThen (by kernel_rfl) ?_ | refine d_endQ (by kernel_rfl) ?_
     repeat refine cS0 ?_
     refine c_condF h rfl ?_
     refine c_exit ?_
     with_reducible repeat (first | refine xa0 ?_ | refine xb0 ?_ | refine xc0 ?_ | refine xd0 ?_ | refine xe0 (by decide) ?_ | refine xf0 ?_ | refine xg0 ?_ | refine xh0 ?_ | refine xi0 ?_)
     exact ⟨j', g1, g2, g3, (h.sub (by repeat (first | exact trivial | refine ⟨rfl, ?_⟩))), H⟩
 clear h H
 rintro a w ⟨J, k4, k5, k6, h, H⟩
 by_cases hx : J ≤ i
 · repeat refine cS0 ?_
   refine cR0 ?_
   refine sM0 hF h rfl rfl (by decide) ?_
   clear h; intro a h
   refine sM0 hF h rfl rfl (by decide) ?_
   clear h; intro a h
   (first | (refine iC0 hF h rfl rfl rfl (i_gtr_t (by omega)) (by decide) ?_) | (refine iC0 hF h rfl rfl rfl (i_gtr_f (by omega)) (by decide) ?_))
   clear h; intro a h
   first | refine cEt0 ?_ | refine cE0 ?_
   repeat refine cS0 ?_
   refine c_condT h rfl ?_
   repeat refine cS0 ?_
   refine d_regionL [13, 15] (by kernel_rfl) H ?_
   clear H; intro w H
   apply dQ0 hF h 0 rfl rfl (by kernel_rfl) (by decide) NoP.np (fun _ => H.sub (by repeat (first | exact ln1 | exact ls1 | exact lr1 | apply lk1 | apply List.Sublist.cons | apply la1)))
   · intro w
     refine sM0 hF h rfl rfl (by decide) ?_
     intro a h
     exact ⟨rfl, h⟩
   clear h; intro a h
   apply dQ0 hF h 1 rfl rfl (by kernel_rfl) (by decide) NoP.np (fun _ => H.sub (by repeat (first | exact ln1 | exact ls1 | exact lr1 | apply lk1 | apply List.Sublist.cons | apply la1)))
   · intro w
     refine sM0 hF h rfl rfl (by decide) ?_
     intro a h
     exact ⟨rfl, h⟩
   clear h; intro a h
   apply dQ0 hF h 2 rfl rfl (by kernel_rfl) (by decide) NoP.np (fun _ => H.sub (by repeat (first | exact ln1 | exact ls1 | exact lr1 | apply lk1 | apply List.Sublist.cons | apply la1)))
   · intro w
     refine sM0 hF h rfl rfl (by decide) ?_
     intro a h
     exact ⟨rfl, h⟩
   clear h; intro a h
   apply dQ0 hF h 3 rfl rfl (by kernel_rfl) (by decide) NoP.np (fun _ => H.sub (by repeat (first | exact ln1 | exact ls1 | exact lr1 | apply lk1 | apply List.Sublist.cons | apply la1)))
   · intro w
     refine sM0 hF h rfl rfl (by decide) ?_
     intro a h
     exact ⟨rfl, h⟩
   clear h; intro a h
   apply dQ0 hF h 4 rfl rfl (by kernel_rfl) (by decide) NoP.np (fun _ => H.sub (by repeat (first | exact ln1 | exact ls1 | exact lr1 | apply lk1 | apply List.Sublist.cons | apply la1)))
   · intro w
     refine sM0 hF h rfl rfl (by decide) ?_
     intro a h
     exact ⟨rfl, h⟩
   clear h; intro a h
   apply dQ0 hF h 5 rfl rfl (by kernel_rfl) (by decide) NoP.np (fun _ => H.sub (by repeat (first | exact ln1 | exact ls1 | exact lr1 | apply lk1 | apply List.Sublist.cons | apply la1)))
   · intro w
     refine sM0 hF h rfl rfl (by decide) ?_
     intro a h
     exact ⟨rfl, h⟩
   clear h; intro a h
   apply dQ0 hF h 6 rfl rfl (by kernel_rfl) (by decide) NoP.np (fun _ => H.sub (by repeat (first | exact ln1 | exact ls1 | exact lr1 | apply lk1 | apply List.Sublist.cons | apply la1)))
   · intro w
     refine i_idxRow hF h rfl rfl rfl (by omega) (by omega) (by decide) ?_
     intro a h
     exact ⟨rfl, h⟩
   clear h; intro a h
   apply dP0 hF h 7 rfl rfl (by kernel_rfl) (by decide) NoP.np (by kernel_rfl) (H.sub (by repeat (first | exact ln1 | exact ls1 | exact lr1 | apply lk1 | apply List.Sublist.cons | apply la1)))
   · intro w H
     refine i_loadRow hF h H rfl rfl (by repeat (first | exact mh1 | apply mt1 | apply ma1)) (by omega) (by decide) ?_
     intro a h
     exact ⟨rfl, h⟩
   clear h; intro a h
   apply dQ0 hF h 8 rfl rfl (by kernel_rfl) (by decide) NoP.np (fun _ => H.sub (by repeat (first | exact ln1 | exact ls1 | exact lr1 | apply lk1 | apply List.Sublist.cons | apply la1)))
   · intro w
     refine sM0 hF h rfl rfl (by decide) ?_
     intro a h
     exact ⟨rfl, h⟩
   clear h; intro a h
   apply dQ0 hF h 9 rfl rfl (by kernel_rfl) (by decide) NoP.np (fun _ => H.sub (by repeat (first | exact ln1 | exact ls1 | exact lr1 | apply lk1 | apply List.Sublist.cons | apply la1)))
   · intro w
     refine sM0 hF h rfl rfl (by decide) ?_
     intro a h
     exact ⟨rfl, h⟩
   clear h; intro a h
   apply dQ0 hF h 10 rfl rfl (by kernel_rfl) (by decide) NoP.np (fun _ => H.sub (by repeat (first | exact ln1 | exact ls1 | exact lr1 | apply lk1 | apply List.Sublist.cons | apply la1)))
   · intro w
     refine i_idxRow hF h rfl rfl rfl (by omega) (by omega) (by decide) ?_
     intro a h
     exact ⟨rfl, h⟩
   clear h; intro a h
   apply dP0 hF h 11 rfl rfl (by kernel_rfl) (by decide) NoP.np (by kernel_rfl) (H.sub (by repeat (first | exact ln1 | exact ls1 | exact lr1 | apply lk1 | apply List.Sublist.cons | apply la1)))
   · intro w H
     refine i_loadRow hF h H rfl rfl (by repeat (first | exact mh1 | apply mt1 | apply ma1)) (by omega) (by decide) ?_
     intro a h
     exact ⟨rfl, h⟩
   clear h; intro a h
   apply dQ0 hF h 12 rfl rfl (by kernel_rfl) (by decide) NoP.np (fun _ => H.sub (by repeat (first | exact ln1 | exact ls1 | exact lr1 | apply lk1 | apply List.Sublist.cons | apply la1)))
   · intro w
     refine i_idxRow hF h rfl rfl rfl (by omega) (by omega) (by decide) ?_
     intro a h
     exact ⟨rfl, h⟩
   clear h; intro a h
   refine dE0 13 rfl (by kernel_rfl) ?_
   refine i_storeRow hF h H rfl rfl rfl (by repeat (first | exact Upd.here | apply Upd.there | apply Upd.app)) (by (try simp only [List.length_set]); omega) ?_
   clear H; intro w H
   refine dNm0 (by kernel_rfl) ?_
   apply dQ0 hF h 14 rfl rfl (by kernel_rfl) (by decide) NoP.np (fun hh => absurd hh (by rw [show ph _ _ = true from by kernel_rfl]; decide))
   · intro w
     refine i_idxRow hF h rfl rfl rfl (by omega) (by omega) (by decide) ?_
     intro a h
     exact ⟨rfl, h⟩
   clear h; intro a h
   refine dE0 15 rfl (by kernel_rfl) ?_
   refine i_storeRow hF h H rfl rfl rfl (by repeat (first | exact Upd.here | apply Upd.there | apply Upd.app)) (by (try simp only [List.length_set]); omega) ?_
   clear H; intro w H
   refine dNm0 (by kernel_rfl) ?_
   first | refine d_endThen (by kernel_rfl) ?_ | refine d_endQ (by kernel_rfl) ?_
   have hsw := swapP (l := l') (i := ((J : Int) - 1).toNat) (j := (p : Int).toNat) (by omega) (by omega)
   repeat refine cS0 ?_
   refine cR0 ?_
   refine sM0 hF h rfl rfl (by decide) ?_
   clear h; intro a h
   refine sA0 hF h rfl rfl (by decide) ?_
   clear h; intro a h
   refine sA0 hF h rfl rfl (by decide) ?_
   clear h; intro a h
   first | refine cEt0 ?_ | refine cE0 ?_
   rw [show ((J : Int) - 1) = ((J - 1 : Nat) : Int) by omega] at h
   refine c_ret ?_
   with_reducible repeat (first | refine xa0 ?_ | refine xb0 ?_ | refine xc0 ?_ | refine xd0 ?_ | refine xe0 (by decide) ?_ | refine xf0 ?_ | refine xg0 ?_ | refine xh0 ?_ | refine xi0 ?_)
   refine leave (fn := Tryz.f115) h Tryz.results115 (.tmp rfl (.tmp rfl (.nil))) ?_
   exact ⟨_, rfl, ⟨J - 1, _, rfl, by omega, by omega⟩, _, hsw.trans hp, H⟩
 · repeat refine cS0 ?_
   refine cR0 ?_
   refine sM0 hF h rfl rfl (by decide) ?_
   clear h; intro a h
   refine sM0 hF h rfl rfl (by decide) ?_
   clear h; intro a h
   (first | (refine iC0 hF h rfl rfl rfl (i_gtr_t (by omega)) (by decide) ?_) | (refine iC0 hF h rfl rfl rfl (i_gtr_f (by omega)) (by decide) ?_))
   clear h; intro a h
   first | refine cEt0 ?_ | refine cE0 ?_
   repeat refine cS0 ?_
   refine c_condF h rfl ?_
   first | refine cKt0 ?_ | refine cK0 ?_
   repeat refine cS0 ?_
   refine d_regionL [13, 15] (by kernel_rfl) H ?_
   clear H; intro w H
   apply dQ0 hF h 0 rfl rfl (by kernel_rfl) (by decide) NoP.np (fun _ => H.sub (by repeat (first | exact ln1 | exact ls1 | exact lr1 | apply lk1 | apply List.Sublist.cons | apply la1)))
   · intro w
     refine sM0 hF h rfl rfl (by decide) ?_
     intro a h
     exact ⟨rfl, h⟩
   clear h; intro a h
   apply dQ0 hF h 1 rfl rfl (by kernel_rfl) (by decide) NoP.np (fun _ => H.sub (by repeat (first | exact ln1 | exact ls1 | exact lr1 | apply lk1 | apply List.Sublist.cons | apply la1)))
   · intro w
     refine sM0 hF h rfl rfl (by decide) ?_
     intro a h
     exact ⟨rfl, h⟩
   clear h; intro a h
   apply dQ0 hF h 2 rfl rfl (by kernel_rfl) (by decide) NoP.np (fun _ => H.sub (by repeat (first | exact ln1 | exact ls1 | exact lr1 | apply lk1 | apply List.Sublist.cons | apply la1)))
   · intro w
     refine sM0 hF h rfl rfl (by decide) ?_
     intro a h
     exact ⟨rfl, h⟩
   clear h; intro a h
   apply dQ0 hF h 3 rfl rfl (by kernel_rfl) (by decide) NoP.np (fun _ => H.sub (by repeat (first | exact ln1 | exact ls1 | exact lr1 | apply lk1 | apply List.Sublist.cons | apply la1)))
   · intro w
     refine sM0 hF h rfl rfl (by decide) ?_
     intro a h
     exact ⟨rfl, h⟩
   clear h; intro a h
   apply dQ0 hF h 4 rfl rfl (by kernel_rfl) (by decide) NoP.np (fun _ => H.sub (by repeat (first | exact ln1 | exact ls1 | exact lr1 | apply lk1 | apply List.Sublist.cons | apply la1)))
   · intro w
     refine sM0 hF h rfl rfl (by decide) ?_
     intro a h
     exact ⟨rfl, h⟩
   clear h; intro a h
   apply dQ0 hF h 5 rfl rfl (by kernel_rfl) (by decide) NoP.np (fun _ => H.sub (by repeat (first | exact ln1 | exact ls1 | exact lr1 | apply lk1 | apply List.Sublist.cons | apply la1)))
   · intro w
     refine sM0 hF h rfl rfl (by decide) ?_
     intro a h
     exact ⟨rfl, h⟩
   clear h; intro a h
   apply dQ0 hF h 6 rfl rfl (by kernel_rfl) (by decide) NoP.np (fun _ => H.sub (by repeat (first | exact ln1 | exact ls1 | exact lr1 | apply lk1 | apply List.Sublist.cons | apply la1)))
   · intro w
     refine i_idxRow hF h rfl rfl rfl (by omega) (by omega) (by decide) ?_
     intro a h
     exact ⟨rfl, h⟩
   clear h; intro a h
   apply dP0 hF h 7 rfl rfl (by kernel_rfl) (by decide) NoP.np (by kernel_rfl) (H.sub (by repeat (first | exact ln1 | exact ls1 | exact lr1 | apply lk1 | apply List.Sublist.cons | apply la1)))
   · intro w H
     refine i_loadRow hF h H rfl rfl (by repeat (first | exact mh1 | apply mt1 | apply ma1)) (by omega) (by decide) ?_
     intro a h
     exact ⟨rfl, h⟩
   clear h; intro a h
   apply dQ0 hF h 8 rfl rfl (by kernel_rfl) (by decide) NoP.np (fun _ => H.sub (by repeat (first | exact ln1 | exact ls1 | exact lr1 | apply lk1 | apply List.Sublist.cons | apply la1)))
   · intro w
     refine sM0 hF h rfl rfl (by decide) ?_
     intro a h
     exact ⟨rfl, h⟩
   clear h; intro a h
   apply dQ0 hF h 9 rfl rfl (by kernel_rfl) (by decide) NoP.np (fun _ => H.sub (by repeat (first | exact ln1 | exact ls1 | exact lr1 | apply lk1 | apply List.Sublist.cons | apply la1)))
   · intro w
     refine sM0 hF h rfl rfl (by decide) ?_
     intro a h
     exact ⟨rfl, h⟩
   clear h; intro a h
   apply dQ0 hF h 10 rfl rfl (by kernel_rfl) (by decide) NoP.np (fun _ => H.sub (by repeat (first | exact ln1 | exact ls1 | exact lr1 | apply lk1 | apply List.Sublist.cons | apply la1)))
   · intro w
     refine i_idxRow hF h rfl rfl rfl (by omega) (by omega) (by decide) ?_
     intro a h
     exact ⟨rfl, h⟩
   clear h; intro a h
   apply dP0 hF h 11 rfl rfl (by kernel_rfl) (by decide) NoP.np (by kernel_rfl) (H.sub (by repeat (first | exact ln1 | exact ls1 | exact lr1 | apply lk1 | apply List.Sublist.cons | apply la1)))
   · intro w H
     refine i_loadRow hF h H rfl rfl (by repeat (first | exact mh1 | apply mt1 | apply ma1)) (by omega) (by decide) ?_
     intro a h
     exact ⟨rfl, h⟩
   clear h; intro a h
   apply dQ0 hF h 12 rfl rfl (by kernel_rfl) (by decide) NoP.np (fun _ => H.sub (by repeat (first | exact ln1 | exact ls1 | exact lr1 | apply lk1 | apply List.Sublist.cons | apply la1)))
   · intro w
     refine i_idxRow hF h rfl rfl rfl (by omega) (by omega) (by decide) ?_
     intro a h
     exact ⟨rfl, h⟩
   clear h; intro a h
   refine dE0 13 rfl (by kernel_rfl) ?_
   refine i_storeRow hF h H rfl rfl rfl (by repeat (first | exact Upd.here | apply Upd.there | apply Upd.app)) (by (try simp only [List.length_set]); omega) ?_
   clear H; intro w H
   refine dNm0 (by kernel_rfl) ?_
   apply dQ0 hF h 14 rfl rfl (by kernel_rfl) (by decide) NoP.np (fun hh => absurd hh (by rw [show ph _ _ = true from by kernel_rfl]; decide))
   · intro w
     refine i_idxRow hF h rfl rfl rfl (by omega) (by omega) (by decide) ?_
     intro a h
     exact ⟨rfl, h⟩
   clear h; intro a h
   refine dE0 15 rfl (by kernel_rfl) ?_
   refine i_storeRow hF h H rfl rfl rfl (by repeat (first | exact Upd.here | apply Upd.there | apply Upd.app)) (by (try simp only [List.length_set]); omega) ?_
   clear H; intro w H
   refine dNm0 (by kernel_rfl) ?_
   first | refine d_endThen (by kernel_rfl) ?_ | refine d_endQ (by kernel_rfl) ?_
   have hsw := swapP (l := l') (i := (i : Int).toNat) (j := ((J : Int) - 1).toNat) (by omega) (by omega)
   repeat refine cS0 ?_
   refine cR0 ?_
   refine sM0 hF h rfl rfl (by decide) ?_
   clear h; intro a h
   refine i_ar64 hF h rfl rfl rfl rfl (by omega) (by omega) (by decide) ?_
   clear h; intro a h
   refine sA0 hF h rfl rfl (by decide) ?_
   clear h; intro a h
   first | refine cEt0 ?_ | refine cE0 ?_
   repeat refine cS0 ?_
   refine cR0 ?_
   refine sM0 hF h rfl rfl (by decide) ?_
   clear h; intro a h
   refine i_ar64 hF h rfl rfl rfl rfl (by omega) (by omega) (by decide) ?_
   clear h; intro a h
   refine sA0 hF h rfl rfl (by decide) ?_
   clear h; intro a h
   first | refine cEt0 ?_ | refine cE0 ?_
   repeat refine cS0 ?_
   refine c_block ?_
   refine c_loopN (fun k a' w' => ∃ i J l', k = r + 1 - i ∧ p + 1 ≤ i ∧ i ≤ r ∧ i ≤ J + 1 ∧ J ≤ r ∧ p + 1 ≤ J ∧ l'.Perm l ∧ Fr 168 [] [(10, int (i : Nat)), (11, int ((J : Nat) - 1)), (0, sl b n cap), (1, int p)] a' ∧ St n0 w0 ((b, rowB l' junk) :: X) w') (r + 1 - (i + 1)) ⟨i + 1, J - 1, _, rfl, by omega, by omega, by omega, by omega, by omega, hsw.trans hp, ?_, H⟩ ?_
   · rw [show ((J - 1 : Nat) : Int) = (J : Int) - 1 by omega]
     exact (h.sub (by repeat (first | exact trivial | refine ⟨rfl, ?_⟩)))
   clear h H hsw hp hlen
   rintro k a w ⟨i, J, l', rfl, hi1, hi2, hi3, hJ1, hJ2, hp, h, H⟩
   have hlen := hp.length_eq
   rw [hn] at hlen
   repeat refine cS0 ?_
   refine c_block ?_
   repeat refine cS0 ?_
   refine c_join (fun a' w' => ∃ i', i ≤ i' ∧ i' ≤ J + 1 ∧ i' ≤ r ∧ Fr 168 [] [(10, int (i' : Nat)), (11, int ((J : Nat) - 1)), (0, sl b n cap), (1, int p)] a' ∧ St n0 w0 ((b, rowB l' junk) :: X) w') ?_ ?_
   · refine c_block ?_
     refine c_loopN (fun k a' w' => ∃ i', k = J - i' ∧ i ≤ i' ∧ i' ≤ J + 1 ∧ i' ≤ r ∧ Fr 168 [] [(10, int (i' : Nat)), (11, int ((J : Nat) - 1)), (0, sl b n cap), (1, int p)] a' ∧ St n0 w0 ((b, rowB l' junk) :: X) w') (J - i) ⟨i, rfl, by omega, by omega, by omega, (h.sub (by repeat (first | exact trivial | refine ⟨rfl, ?_⟩))), H⟩ ?_
     clear h H
     rintro k a w ⟨i', rfl, g1, g2, g3, h, H⟩
     by_cases hi : i' < J
     · repeat refine cS0 ?_
       refine d_regionL [] (by kernel_rfl) H ?_
       clear H; intro w H
       apply dQ0 hF h 0 rfl rfl (by kernel_rfl) (by decide) NoP.np (fun _ => H.sub (by repeat (first | exact ln1 | exact ls1 | exact lr1 | apply lk1 | apply List.Sublist.cons | apply la1)))
       · intro w
         refine sM0 hF h rfl rfl (by decide) ?_
         intro a h
         exact ⟨rfl, h⟩
       clear h; intro a h
       apply dQ0 hF h 1 rfl rfl (by kernel_rfl) (by decide) NoP.np (fun _ => H.sub (by repeat (first | exact ln1 | exact ls1 | exact lr1 | apply lk1 | apply List.Sublist.cons | apply la1)))
       · intro w
         refine sM0 hF h rfl rfl (by decide) ?_
         intro a h
         exact ⟨rfl, h⟩
       clear h; intro a h
       apply dQ0 hF h 2 rfl rfl (by kernel_rfl) (by decide) NoP.np (fun _ => H.sub (by repeat (first | exact ln1 | exact ls1 | exact lr1 | apply lk1 | apply List.Sublist.cons | apply la1)))
       · intro w
         (first | (refine iC0 hF h rfl rfl rfl (i_leq_t (by omega)) (by decide) ?_) | (refine iC0 hF h rfl rfl rfl (i_leq_f (by omega)) (by decide) ?_))
         intro a h
         exact ⟨rfl, h⟩
       clear h; intro a h
       apply dQ0 hF h 3 rfl rfl (by kernel_rfl) (by decide) NoP.np (fun _ => H.sub (by repeat (first | exact ln1 | exact ls1 | exact lr1 | apply lk1 | apply List.Sublist.cons | apply la1)))
       · intro w
         refine sM0 hF h rfl rfl (by decide) ?_
         intro a h
         exact ⟨rfl, h⟩
       clear h; intro a h
       apply dQ0 hF h 4 rfl rfl (by kernel_rfl) (by decide) NoP.np (fun _ => H.sub (by repeat (first | exact ln1 | exact ls1 | exact lr1 | apply lk1 | apply List.Sublist.cons | apply la1)))
       · intro w
         first | (refine sK0 hF h rfl (by decide) ?_; intro a h) | (refine sM0 hF h rfl rfl (by decide) ?_; intro a h)
         exact ⟨rfl, h⟩
       clear h; intro a h
       apply dQ0 hF h 5 rfl rfl (by kernel_rfl) (by decide) NoP.np (fun _ => H.sub (by repeat (first | exact ln1 | exact ls1 | exact lr1 | apply lk1 | apply List.Sublist.cons | apply la1)))
       · intro w
         first | (refine sK0 hF h rfl (by decide) ?_; intro a h) | (refine sM0 hF h rfl rfl (by decide) ?_; intro a h)
         exact ⟨rfl, h⟩
       clear h; intro a h
       apply dQ0 hF h 6 rfl rfl (by kernel_rfl) (by decide) NoP.np (fun _ => H.sub (by repeat (first | exact ln1 | exact ls1 | exact lr1 | apply lk1 | apply List.Sublist.cons | apply la1)))
       · intro w
         first | (refine sK0 hF h rfl (by decide) ?_; intro a h) | (refine i_idxRow hF h rfl rfl rfl (by omega) (by omega) (by decide) ?_; intro a h)
         exact ⟨rfl, h⟩
       clear h; intro a h
       apply dP0 hF h 7 rfl rfl (by kernel_rfl) (by decide) NoP.np (by kernel_rfl) (H.sub (by repeat (first | exact ln1 | exact ls1 | exact lr1 | apply lk1 | apply List.Sublist.cons | apply la1)))
       · intro w H
         first | (refine sK0 hF h rfl (by decide) ?_; intro a h) | (refine i_loadRow hF h H rfl rfl (by repeat (first | exact mh1 | apply mt1 | apply ma1)) (by omega) (by decide) ?_; intro a h)
         exact ⟨rfl, h⟩
       clear h; intro a h
       apply dQ0 hF h 8 rfl rfl (by kernel_rfl) (by decide) NoP.np (fun _ => H.sub (by repeat (first | exact ln1 | exact ls1 | exact lr1 | apply lk1 | apply List.Sublist.cons | apply la1)))
       · intro w
         first | (refine sK0 hF h rfl (by decide) ?_; intro a h) | (refine sM0 hF h rfl rfl (by decide) ?_; intro a h)
         exact ⟨rfl, h⟩
       clear h; intro a h
       apply dQ0 hF h 9 rfl rfl (by kernel_rfl) (by decide) NoP.np (fun _ => H.sub (by repeat (first | exact ln1 | exact ls1 | exact lr1 | apply lk1 | apply List.Sublist.cons | apply la1)))
       · intro w
         first | (refine sK0 hF h rfl (by decide) ?_; intro a h) | (refine sM0 hF h rfl rfl (by decide) ?_; intro a h)
         exact ⟨rfl, h⟩
       clear h; intro a h
       apply dQ0 hF h 10 rfl rfl (by kernel_rfl) (by decide) NoP.np (fun _ => H.sub (by repeat (first | exact ln1 | exact ls1 | exact lr1 | apply lk1 | apply List.Sublist.cons | apply la1)))
       · intro w
         first | (refine sK0 hF h rfl (by decide) ?_; intro a h) | (refine i_idxRow hF h rfl rfl rfl (by omega) (by omega) (by decide) ?_; intro a h)
         exact ⟨rfl, h⟩
       clear h; intro a h
       apply dP0 hF h 11 rfl rfl (by kernel_rfl) (by decide) NoP.np (by kernel_rfl) (H.sub (by repeat (first | exact ln1 | exact ls1 | exact lr1 | apply lk1 | apply List.Sublist.cons | apply la1)))
       · intro w H
         first | (refine sK0 hF h rfl (by decide) ?_; intro a h) | (refine i_loadRow hF h H rfl rfl (by repeat (first | exact mh1 | apply mt1 | apply ma1)) (by omega) (by decide) ?_; intro a h)
         exact ⟨rfl, h⟩
       clear h; intro a h
       refine dE0 12 rfl (by kernel_rfl) ?_
       first | (refine sK0 hF h rfl (by decide) ?_; clear h; intro a h) | (refine i_call hF h rfl (less_ret _ _ _) rfl (by decide) ?_; clear h; rintro _ w ⟨q, rfl, hb⟩ a h; replace H := H.call hb; clear hb)
       refine dN0 (H.sub (by repeat (first | exact ln1 | exact ls1 | exact lr1 | apply lk1 | apply List.Sublist.cons | apply la1))) ?_
       apply dQ0 hF h 13 rfl rfl (by kernel_rfl) (by decide) NoP.np (fun _ => H.sub (by repeat (first | exact ln1 | exact ls1 | exact lr1 | apply lk1 | apply List.Sublist.cons | apply la1)))
       · intro w
         refine s_pick hF h rfl rfl rfl (by decide) ?_
         intro a h
         exact ⟨rfl, h⟩
       clear h; intro a h
       first | refine d_endThen (by kernel_rfl) ?_ | refine d_endQ (by kernel_rfl) ?_
       cases q
       · -- q = false
         repeat refine cS0 ?_
         refine c_condF h rfl ?_
         refine c_exit ?_
         with_reducible repeat (first | refine xa0 ?_ | refine xb0 ?_ | refine xc0 ?_ | refine xd0 ?_ | refine xe0 (by decide) ?_ | refine xf0 ?_ | refine xg0 ?_ | refine xh0 ?_ | refine xi0 ?_)
         exact ⟨i', g1, g2, g3, (h.sub (by repeat (first | exact trivial | refine ⟨rfl, ?_⟩))), H⟩
       · -- q = true
         repeat refine cS0 ?_
         refine c_condT h rfl ?_
         first | refine cKt0 ?_ | refine cK0 ?_
         refine c_block ?_
         repeat refine cS0 ?_
         refine cR0 ?_
         refine sM0 hF h rfl rfl (by decide) ?_
         clear h; intro a h
         refine i_ar64 hF h rfl rfl rfl rfl (by omega) (by omega) (by decide) ?_
         clear h; intro a h
         refine sA0 hF h rfl rfl (by decide) ?_
         clear h; intro a h
         refine cE0 ?_
         with_reducible repeat (first | refine xa0 ?_ | refine xb0 ?_ | refine xc0 ?_ | refine xd0 ?_ | refine xe0 (by decide) ?_ | refine xf0 ?_ | refine xg0 ?_ | refine xh0 ?_ | refine xi0 ?_)
         refine ⟨J - (i' + 1), by omega, i' + 1, rfl, by omega, by omega, by omega, ?_, H⟩
         exact (h.sub (by repeat (first | exact trivial | refine ⟨rfl, ?_⟩)))
     · repeat refine cS0 ?_
       refine d_regionL [] (by kernel_rfl) H ?_
       clear H; intro w H
       apply dQ0 hF h 0 rfl rfl (by kernel_rfl) (by decide) NoP.np (fun _ => H.sub (by repeat (first | exact ln1 | exact ls1 | exact lr1 | apply lk1 | apply List.Sublist.cons | apply la1)))
       · intro w
         refine sM0 hF h rfl rfl (by decide) ?_
         intro a h
         exact ⟨rfl, h⟩
       clear h; intro a h
       apply dQ0 hF h 1 rfl rfl (by kernel_rfl) (by decide) NoP.np (fun _ => H.sub (by repeat (first | exact ln1 | exact ls1 | exact lr1 | apply lk1 | apply List.Sublist.cons | apply la1)))
       · intro w
         refine sM0 hF h rfl rfl (by decide) ?_
         intro a h
         exact ⟨rfl, h⟩
       clear h; intro a h
       apply dQ0 hF h 2 rfl rfl (by kernel_rfl) (by decide) NoP.np (fun _ => H.sub (by repeat (first | exact ln1 | exact ls1 | exact lr1 | apply lk1 | apply List.Sublist.cons | apply la1)))
       · intro w
         (first | (refine iC0 hF h rfl rfl rfl (i_leq_t (by omega)) (by decide) ?_) | (refine iC0 hF h rfl rfl rfl (i_leq_f (by omega)) (by decide) ?_))
         intro a h
         exact ⟨rfl, h⟩
       clear h; intro a h
       apply dQ0 hF h 3 rfl rfl (by kernel_rfl) (by decide) NoP.np (fun _ => H.sub (by repeat (first | exact ln1 | exact ls1 | exact lr1 | apply lk1 | apply List.Sublist.cons | apply la1)))
       · intro w
         refine sM0 hF h rfl rfl (by decide) ?_
         intro a h
         exact ⟨rfl, h⟩
       clear h; intro a h
       apply dQ0 hF h 4 rfl rfl (by kernel_rfl) (by decide) NoP.np (fun _ => H.sub (by repeat (first | exact ln1 | exact ls1 | exact lr1 | apply lk1 | apply List.Sublist.cons | apply la1)))
       · intro w
         first | (refine sK0 hF h rfl (by decide) ?_; intro a h) | (refine sM0 hF h rfl rfl (by decide) ?_; intro a h)
         exact ⟨rfl, h⟩
       clear h; intro a h
       apply dQ0 hF h 5 rfl rfl (by kernel_rfl) (by decide) NoP.np (fun _ => H.sub (by repeat (first | exact ln1 | exact ls1 | exact lr1 | apply lk1 | apply List.Sublist.cons | apply la1)))
       · intro w
         first | (refine sK0 hF h rfl (by decide) ?_; intro a h) | (refine sM0 hF h rfl rfl (by decide) ?_; intro a h)
         exact ⟨rfl, h⟩
       clear h; intro a h
       apply dQ0 hF h 6 rfl rfl (by kernel_rfl) (by decide) NoP.np (fun _ => H.sub (by repeat (first | exact ln1 | exact ls1 | exact lr1 | apply lk1 | apply List.Sublist.cons | apply la1)))
       · intro w
         first | (refine sK0 hF h rfl (by decide) ?_; intro a h) | (refine i_idxRow hF h rfl rfl rfl (by omega) (by omega) (by decide) ?_; intro a h)
         exact ⟨rfl, h⟩
       clear h; intro a h
       apply dP0 hF h 7 rfl rfl (by kernel_rfl) (by decide) NoP.np (by kernel_rfl) (H.sub (by repeat (first | exact ln1 | exact ls1 | exact lr1 | apply lk1 | apply List.Sublist.cons | apply la1)))
       · intro w H
         first | (refine sK0 hF h rfl (by decide) ?_; intro a h) | (refine i_loadRow hF h H rfl rfl (by repeat (first | exact mh1 | apply mt1 | apply ma1)) (by omega) (by decide) ?_; intro a h)
         exact ⟨rfl, h⟩
       clear h; intro a h
       apply dQ0 hF h 8 rfl rfl (by kernel_rfl) (by decide) NoP.np (fun _ => H.sub (by repeat (first | exact ln1 | exact ls1 | exact lr1 | apply lk1 | apply List.Sublist.cons | apply la1)))
       · intro w
         first | (refine sK0 hF h rfl (by decide) ?_; intro a h) | (refine sM0 hF h rfl rfl (by decide) ?_; intro a h)
         exact ⟨rfl, h⟩
       clear h; intro a h
       apply dQ0 hF h 9 rfl rfl (by kernel_rfl) (by decide) NoP.np (fun _ => H.sub (by repeat (first | exact ln1 | exact ls1 | exact lr1 | apply lk1 | apply List.Sublist.cons | apply la1)))
       · intro w
         first | (refine sK0 hF h rfl (by decide) ?_; intro a h) | (refine sM0 hF h rfl rfl (by decide) ?_; intro a h)
         exact ⟨rfl, h⟩
       clear h; intro a h
       apply dQ0 hF h 10 rfl rfl (by kernel_rfl) (by decide) NoP.np (fun _ => H.sub (by repeat (first | exact ln1 | exact ls1 | exact lr1 | apply lk1 | apply List.Sublist.cons | apply la1)))
       · intro w
         first | (refine sK0 hF h rfl (by decide) ?_; intro a h) | (refine i_idxRow hF h rfl rfl rfl (by omega) (by omega) (by decide) ?_; intro a h)
         exact ⟨rfl, h⟩
       clear h; intro a h
       apply dP0 hF h 11 rfl rfl (by kernel_rfl) (by decide) NoP.np (by kernel_rfl) (H.sub (by repeat (first | exact ln1 | exact ls1 | exact lr1 | apply lk1 | apply List.Sublist.cons | apply la1)))
       · intro w H
         first | (refine sK0 hF h rfl (by decide) ?_; intro a h) | (refine i_loadRow hF h H rfl rfl (by repeat (first | exact mh1 | apply mt1 | apply ma1)) (by omega) (by decide) ?_; intro a h)
         exact ⟨rfl, h⟩
       clear h; intro a h
       refine dE0 12 rfl (by kernel_rfl) ?_
       first | (refine sK0 hF h rfl (by decide) ?_; clear h; intro a h) | (refine i_call hF h rfl (less_ret _ _ _) rfl (by decide) ?_; clear h; rintro _ w ⟨q, rfl, hb⟩ a h; replace H := H.call hb; clear hb)
       refine dN0 (H.sub (by repeat (first | exact ln1 | exact ls1 | exact lr1 | apply lk1 | apply List.Sublist.cons | apply la1))) ?_
       apply dQ0 hF h 13 rfl rfl (by kernel_rfl) (by decide) NoP.np (fun _ => H.sub (by repeat (first | exact ln1 | exact ls1 | exact lr1 | apply lk1 | apply List.Sublist.cons | apply la1)))
       · intro w
         refine s_pick hF h rfl rfl rfl (by decide) ?_
         intro a h
         exact ⟨rfl, h⟩
       clear h; intro a h
       first | refine d_endThen (by kernel_rfl) ?_ | refine d_endQ (by kernel_rfl) ?_
       repeat refine cS0 ?_
       refine c_condF h rfl ?_
       refine c_exit ?_
       with_reducible repeat (first | refine xa0 ?_ | refine xb0 ?_ | refine xc0 ?_ | refine xd0 ?_ | refine xe0 (by decide) ?_ | refine xf0 ?_ | refine xg0 ?_ | refine xh0 ?_ | refine xi0 ?_)
       exact ⟨i', g1, g2, g3, (h.sub (by repeat (first | exact trivial | refine ⟨rfl, ?_⟩))), H⟩
   clear h H
   rintro a w ⟨i2, k1, k2, k3, h, H⟩
   repeat refine cS0 ?_
   refine c_join (fun a' w' => ∃ j', j' ≤ J ∧ p + 1 ≤ j' ∧ i2 ≤ j' + 1 ∧ Fr 168 [] [(10, int (i2 : Nat)), (11, int ((j' : Nat) - 1)), (0, sl b n cap), (1, int p)] a' ∧ St n0 w0 ((b, rowB l' junk) :: X) w') ?_ ?_
   · refine c_block ?_
     refine c_loopN (fun k a' w' => ∃ j', j' = k ∧ j' ≤ J ∧ p + 1 ≤ j' ∧ i2 ≤ j' + 1 ∧ Fr 168 [] [(10, int (i2 : Nat)), (11, int ((j' : Nat) - 1)), (0, sl b n cap), (1, int p)] a' ∧ St n0 w0 ((b, rowB l' junk) :: X) w') (J) ⟨J, rfl, by omega, by omega, by omega, (h.sub (by repeat (first | exact trivial | refine ⟨rfl, ?_⟩))), H⟩ ?_
     clear h H
     rintro k a w ⟨j', rfl, g1, g2, g3, h, H⟩
     by_cases hi : i2 < j'
     · repeat refine cS0 ?_
       refine d_regionL [] (by kernel_rfl) H ?_
       clear H; intro w H
       apply dQ0 hF h 0 rfl rfl (by kernel_rfl) (by decide) NoP.np (fun _ => H.sub (by repeat (first | exact ln1 | exact ls1 | exact lr1 | apply lk1 | apply List.Sublist.cons | apply la1)))
       · intro w
         refine sM0 hF h rfl rfl (by decide) ?_
         intro a h
         exact ⟨rfl, h⟩
       clear h; intro a h
       apply dQ0 hF h 1 rfl rfl (by kernel_rfl) (by decide) NoP.np (fun _ => H.sub (by repeat (first | exact ln1 | exact ls1 | exact lr1 | apply lk1 | apply List.Sublist.cons | apply la1)))
       · intro w
         refine sM0 hF h rfl rfl (by decide) ?_
         intro a h
         exact ⟨rfl, h⟩
       clear h; intro a h
       apply dQ0 hF h 2 rfl rfl (by kernel_rfl) (by decide) NoP.np (fun _ => H.sub (by repeat (first | exact ln1 | exact ls1 | exact lr1 | apply lk1 | apply List.Sublist.cons | apply la1)))
       · intro w
         (first | (refine iC0 hF h rfl rfl rfl (i_leq_t (by omega)) (by decide) ?_) | (refine iC0 hF h rfl rfl rfl (i_leq_f (by omega)) (by decide) ?_))
         intro a h
         exact ⟨rfl, h⟩
       clear h; intro a h
       apply dQ0 hF h 3 rfl rfl (by kernel_rfl) (by decide) NoP.np (fun _ => H.sub (by repeat (first | exact ln1 | exact ls1 | exact lr1 | apply lk1 | apply List.Sublist.cons | apply la1)))
       · intro w
         refine sM0 hF h rfl rfl (by decide) ?_
         intro a h
         exact ⟨rfl, h⟩
       clear h; intro a h
       apply dQ0 hF h 4 rfl rfl (by kernel_rfl) (by decide) NoP.np (fun _ => H.sub (by repeat (first | exact ln1 | exact ls1 | exact lr1 | apply lk1 | apply List.Sublist.cons | apply la1)))
       · intro w
         first | (refine sK0 hF h rfl (by decide) ?_; intro a h) | (refine sM0 hF h rfl rfl (by decide) ?_; intro a h)
         exact ⟨rfl, h⟩
       clear h; intro a h
       apply dQ0 hF h 5 rfl rfl (by kernel_rfl) (by decide) NoP.np (fun _ => H.sub (by repeat (first | exact ln1 | exact ls1 | exact lr1 | apply lk1 | apply List.Sublist.cons | apply la1)))
       · intro w
         first | (refine sK0 hF h rfl (by decide) ?_; intro a h) | (refine sM0 hF h rfl rfl (by decide) ?_; intro a h)
         exact ⟨rfl, h⟩
       clear h; intro a h
       apply dQ0 hF h 6 rfl rfl (by kernel_rfl) (by decide) NoP.np (fun _ => H.sub (by repeat (first | exact ln1 | exact ls1 | exact lr1 | apply lk1 | apply List.Sublist.cons | apply la1)))
       · intro w
         first | (refine sK0 hF h rfl (by decide) ?_; intro a h) | (refine i_idxRow hF h rfl rfl rfl (by omega) (by omega) (by decide) ?_; intro a h)
         exact ⟨rfl, h⟩
       clear h; intro a h
       apply dP0 hF h 7 rfl rfl (by kernel_rfl) (by decide) NoP.np (by kernel_rfl) (H.sub (by repeat (first | exact ln1 | exact ls1 | exact lr1 | apply lk1 | apply List.Sublist.cons | apply la1)))
       · intro w H
         first | (refine sK0 hF h rfl (by decide) ?_; intro a h) | (refine i_loadRow hF h H rfl rfl (by repeat (first | exact mh1 | apply mt1 | apply ma1)) (by omega) (by decide) ?_; intro a h)
         exact ⟨rfl, h⟩
       clear h; intro a h
       apply dQ0 hF h 8 rfl rfl (by kernel_rfl) (by decide) NoP.np (fun _ => H.sub (by repeat (first | exact ln1 | exact ls1 | exact lr1 | apply lk1 | apply List.Sublist.cons | apply la1)))
       · intro w
         first | (refine sK0 hF h rfl (by decide) ?_; intro a h) | (refine sM0 hF h rfl rfl (by decide) ?_; intro a h)
         exact ⟨rfl, h⟩
       clear h; intro a h
       apply dQ0 hF h 9 rfl rfl (by kernel_rfl) (by decide) NoP.np (fun _ => H.sub (by repeat (first | exact ln1 | exact ls1 | exact lr1 | apply lk1 | apply List.Sublist.cons | apply la1)))
       · intro w
         first | (refine sK0 hF h rfl (by decide) ?_; intro a h) | (refine sM0 hF h rfl rfl (by decide) ?_; intro a h)
         exact ⟨rfl, h⟩
       clear h; intro a h
       apply dQ0 hF h 10 rfl rfl (by kernel_rfl) (by decide) NoP.np (fun _ => H.sub (by repeat (first | exact ln1 | exact ls1 | exact lr1 | apply lk1 | apply List.Sublist.cons | apply la1)))
       · intro w
         first | (refine sK0 hF h rfl (by decide) ?_; intro a h) | (refine i_idxRow hF h rfl rfl rfl (by omega) (by omega) (by decide) ?_; intro a h)
         exact ⟨rfl, h⟩
       clear h; intro a h
       apply dP0 hF h 11 rfl rfl (by kernel_rfl) (by decide) NoP.np (by kernel_rfl) (H.sub (by repeat (first | exact ln1 | exact ls1 | exact lr1 | apply lk1 | apply List.Sublist.cons | apply la1)))
       · intro w H
         first | (refine sK0 hF h rfl (by decide) ?_; intro a h) | (refine i_loadRow hF h H rfl rfl (by repeat (first | exact mh1 | apply mt1 | apply ma1)) (by omega) (by decide) ?_; intro a h)
         exact ⟨rfl, h⟩
       clear h; intro a h
       refine dE0 12 rfl (by kernel_rfl) ?_
       first | (refine sK0 hF h rfl (by decide) ?_; clear h; intro a h) | (refine i_call hF h rfl (less_ret _ _ _) rfl (by decide) ?_; clear h; rintro _ w ⟨q, rfl, hb⟩ a h; replace H := H.call hb; clear hb)
       refine dN0 (H.sub (by repeat (first | exact ln1 | exact ls1 | exact lr1 | apply lk1 | apply List.Sublist.cons | apply la1))) ?_
       apply dQ0 hF h 13 rfl rfl (by kernel_rfl) (by decide) NoP.np (fun _ => H.sub (by repeat (first | exact ln1 | exact ls1 | exact lr1 | apply lk1 | apply List.Sublist.cons | apply la1)))
       · intro w
         first | (refine sK0 hF h rfl (by decide) ?_; intro a h) | (refine i_not hF h rfl rfl (by decide) ?_; intro a h; try simp only [Bool.not_true, Bool.not_false] at h)
         exact ⟨rfl, h⟩
       clear h; intro a h
       apply dQ0 hF h 14 rfl rfl (by kernel_rfl) (by decide) NoP.np (fun _ => H.sub (by repeat (first | exact ln1 | exact ls1 | exact lr1 | apply lk1 | apply List.Sublist.cons | apply la1)))
       · intro w
         refine s_pick hF h rfl rfl rfl (by decide) ?_
         intro a h
         exact ⟨rfl, h⟩
       clear h; intro a h
       first | refine d_endThen (by kernel_rfl) ?_ | refine d_endQ (by kernel_rfl) ?_
       cases q
       · -- q = false
         repeat refine cS0 ?_
         refine c_condT h rfl ?_
         first | refine cKt0 ?_ | refine cK0 ?_
         refine c_block ?_
         repeat refine cS0 ?_
         refine cR0 ?_
         refine sM0 hF h rfl rfl (by decide) ?_
         clear h; intro a h
         refine i_ar64 hF h rfl rfl rfl rfl (by omega) (by omega) (by decide) ?_
         clear h; intro a h
         refine sA0 hF h rfl rfl (by decide) ?_
         clear h; intro a h
         refine cE0 ?_
         with_reducible repeat (first | refine xa0 ?_ | refine xb0 ?_ | refine xc0 ?_ | refine xd0 ?_ | refine xe0 (by decide) ?_ | refine xf0 ?_ | refine xg0 ?_ | refine xh0 ?_ | refine xi0 ?_)
         refine ⟨(j' - 1), by omega, j' - 1, rfl, by omega, by omega, by omega, ?_, H⟩
         rw [show ((j' - 1 : Nat) : Int) = (j' : Int) - 1 by omega]
         exact (h.sub (by repeat (first | exact trivial | refine ⟨rfl, ?_⟩)))
       · -- q = true
         repeat refine cS0 ?_
         refine c_condF h rfl ?_
         refine c_exit ?_
         with_reducible repeat (first | refine xa0 ?_ | refine xb0 ?_ | refine xc0 ?_ | refine xd0 ?_ | refine xe0 (by decide) ?_ | refine xf0 ?_ | refine xg0 ?_ | refine xh0 ?_ | refine xi0 ?_)
         exact ⟨j', g1, g2, g3, (h.sub (by repeat (first | exact trivial | refine ⟨rfl, ?_⟩))), H⟩
     · repeat refine cS0 ?_
       refine d_regionL [] (by kernel_rfl) H ?_
       clear H; intro w H
       apply dQ0 hF h 0 rfl rfl (by kernel_rfl) (by decide) NoP.np (fun _ => H.sub (by repeat (first | exact ln1 | exact ls1 | exact lr1 | apply lk1 | apply List.Sublist.cons | apply la1)))
       · intro w
         refine sM0 hF h rfl rfl (by decide) ?_
         intro a h
         exact ⟨rfl, h⟩
       clear h; intro a h
       apply dQ0 hF h 1 rfl rfl (by kernel_rfl) (by decide) NoP.np (fun _ => H.sub (by repeat (first | exact ln1 | exact ls1 | exact lr1 | apply lk1 | apply List.Sublist.cons | apply la1)))
       · intro w
         refine sM0 hF h rfl rfl (by decide) ?_
         intro a h
         exact ⟨rfl, h⟩
       clear h; intro a h
       apply dQ0 hF h 2 rfl rfl (by kernel_rfl) (by decide) NoP.np (fun _ => H.sub (by repeat (first | exact ln1 | exact ls1 | exact lr1 | apply lk1 | apply List.Sublist.cons | apply la1)))
       · intro w
         (first | (refine iC0 hF h rfl rfl rfl (i_leq_t (by omega)) (by decide) ?_) | (refine iC0 hF h rfl rfl rfl (i_leq_f (by omega)) (by decide) ?_))
         intro a h
         exact ⟨rfl, h⟩
       clear h; intro a h
       apply dQ0 hF h 3 rfl rfl (by kernel_rfl) (by decide) NoP.np (fun _ => H.sub (by repeat (first | exact ln1 | exact ls1 | exact lr1 | apply lk1 | apply List.Sublist.cons | apply la1)))
       · intro w
         refine sM0 hF h rfl rfl (by decide) ?_
         intro a h
         exact ⟨rfl, h⟩
       clear h; intro a h
       apply dQ0 hF h 4 rfl rfl (by kernel_rfl) (by decide) NoP.np (fun _ => H.sub (by repeat (first | exact ln1 | exact ls1 | exact lr1 | apply lk1 | apply List.Sublist.cons | apply la1)))
       · intro w
         first | (refine sK0 hF h rfl (by decide) ?_; intro a h) | (refine sM0 hF h rfl rfl (by decide) ?_; intro a h)
         exact ⟨rfl, h⟩
       clear h; intro a h
       apply dQ0 hF h 5 rfl rfl (by kernel_rfl) (by decide) NoP.np (fun _ => H.sub (by repeat (first | exact ln1 | exact ls1 | exact lr1 | apply lk1 | apply List.Sublist.cons | apply la1)))
       · intro w
         first | (refine sK0 hF h rfl (by decide) ?_; intro a h) | (refine sM0 hF h rfl rfl (by decide) ?_; intro a h)
         exact ⟨rfl, h⟩
       clear h; intro a h
       apply dQ0 hF h 6 rfl rfl (by kernel_rfl) (by decide) NoP.np (fun _ => H.sub (by repeat (first | exact ln1 | exact ls1 | exact lr1 | apply lk1 | apply List.Sublist.cons | apply la1)))
       · intro w
         first | (refine sK0 hF h rfl (by decide) ?_; intro a h) | (refine i_idxRow hF h rfl rfl rfl (by omega) (by omega) (by decide) ?_; intro a h)
         exact ⟨rfl, h⟩
       clear h; intro a h
       apply dP0 hF h 7 rfl rfl (by kernel_rfl) (by decide) NoP.np (by kernel_rfl) (H.sub (by repeat (first | exact ln1 | exact ls1 | exact lr1 | apply lk1 | apply List.Sublist.cons | apply la1)))
       · intro w H
         first | (refine sK0 hF h rfl (by decide) ?_; intro a h) | (refine i_loadRow hF h H rfl rfl (by repeat (first | exact mh1 | apply mt1 | apply ma1)) (by omega) (by decide) ?_; intro a h)
         exact ⟨rfl, h⟩
       clear h; intro a h
       apply dQ0 hF h 8 rfl rfl (by kernel_rfl) (by decide) NoP.np (fun _ => H.sub (by repeat (first | exact ln1 | exact ls1 | exact lr1 | apply lk1 | apply List.Sublist.cons | apply la1)))
       · intro w
         first | (refine sK0 hF h rfl (by decide) ?_; intro a h) | (refine sM0 hF h rfl rfl (by decide) ?_; intro a h)
         exact ⟨rfl, h⟩
       clear h; intro a h
       apply dQ0 hF h 9 rfl rfl (by kernel_rfl) (by decide) NoP.np (fun _ => H.sub (by repeat (first | exact ln1 | exact ls1 | exact lr1 | apply lk1 | apply List.Sublist.cons | apply la1)))
       · intro w
         first | (refine sK0 hF h rfl (by decide) ?_; intro a h) | (refine sM0 hF h rfl rfl (by decide) ?_; intro a h)
         exact ⟨rfl, h⟩
       clear h; intro a h
       apply dQ0 hF h 10 rfl rfl (by kernel_rfl) (by decide) NoP.np (fun _ => H.sub (by repeat (first | exact ln1 | exact ls1 | exact lr1 | apply lk1 | apply List.Sublist.cons | apply la1)))
       · intro w
         first | (refine sK0 hF h rfl (by decide) ?_; intro a h) | (refine i_idxRow hF h rfl rfl rfl (by omega) (by omega) (by decide) ?_; intro a h)
         exact ⟨rfl, h⟩
       clear h; intro a h
       apply dP0 hF h 11 rfl rfl (by kernel_rfl) (by decide) NoP.np (by kernel_rfl) (H.sub (by repeat (first | exact ln1 | exact ls1 | exact lr1 | apply lk1 | apply List.Sublist.cons | apply la1)))
       · intro w H
         first | (refine sK0 hF h rfl (by decide) ?_; intro a h) | (refine i_loadRow hF h H rfl rfl (by repeat (first | exact mh1 | apply mt1 | apply ma1)) (by omega) (by decide) ?_; intro a h)
         exact ⟨rfl, h⟩
       clear h; intro a h
       refine dE0 12 rfl (by kernel_rfl) ?_
       first | (refine sK0 hF h rfl (by decide) ?_; clear h; intro a h) | (refine i_call hF h rfl (less_ret _ _ _) rfl (by decide) ?_; clear h; rintro _ w ⟨q, rfl, hb⟩ a h; replace H := H.call hb; clear hb)
       refine dN0 (H.sub (by repeat (first | exact ln1 | exact ls1 | exact lr1 | apply lk1 | apply List.Sublist.cons | apply la1))) ?_
       apply dQ0 hF h 13 rfl rfl (by kernel_rfl) (by decide) NoP.np (fun _ => H.sub (by repeat (first | exact ln1 | exact ls1 | exact lr1 | apply lk1 | apply List.Sublist.cons | apply la1)))
       · intro w
         first | (refine sK0 hF h rfl (by decide) ?_; intro a h) | (refine i_not hF h rfl rfl (by decide) ?_; intro a h; try simp only [Bool.not_true, Bool.not_false] at h)
         exact ⟨rfl, h⟩
       clear h; intro a h
       apply dQ0 hF h 14 rfl rfl (by kernel_rfl) (by decide) NoP.np (fun _ => H.sub (by repeat (first | exact ln1 | exact ls1 | exact lr1 | apply lk1 | apply List.Sublist.cons | apply la1)))
       · intro w
         refine s_pick hF h rfl rfl rfl (by decide) ?_
         intro a h
         exact ⟨rfl, h⟩
       clear h; intro a h
       first | refine d_endThen (by kernel_rfl) ?_ | refine d_endQ (by kernel_rfl) ?_
       repeat refine cS0 ?_
       refine c_condF h rfl ?_
       refine c_exit ?_
       with_reducible repeat (first | refine xa0 ?_ | refine xb0 ?_ | refine xc0 ?_ | refine xd0 ?_ | refine xe0 (by decide) ?_ | refine xf0 ?_ | refine xg0 ?_ | refine xh0 ?_ | refine xi0 ?_)
       exact ⟨j', g1, g2, g3, (h.sub (by repeat (first | exact trivial | refine ⟨rfl, ?_⟩))), H⟩
   clear h H
   rintro a w ⟨J2, k4, k5, k6, h, H⟩
   by_cases hx : J2 ≤ i2
   · repeat refine cS0 ?_
     refine cR0 ?_
     refine sM0 hF h rfl rfl (by decide) ?_
     clear h; intro a h
     refine sM0 hF h rfl rfl (by decide) ?_
     clear h; intro a h
     (first | (refine iC0 hF h rfl rfl rfl (i_gtr_t (by omega)) (by decide) ?_) | (refine iC0 hF h rfl rfl rfl (i_gtr_f (by omega)) (by decide) ?_))
     clear h; intro a h
     first | refine cEt0 ?_ | refine cE0 ?_
     repeat refine cS0 ?_
     refine c_condT h rfl ?_
     refine c_exit ?_
     with_reducible repeat (first | refine xa0 ?_ | refine xb0 ?_ | refine xc0 ?_ | refine xd0 ?_ | refine xe0 (by decide) ?_ | refine xf0 ?_ | refine xg0 ?_ | refine xh0 ?_ | refine xi0 ?_)
     repeat refine cS0 ?_
     refine d_regionL [13, 15] (by kernel_rfl) H ?_
     clear H; intro w H
     apply dQ0 hF h 0 rfl rfl (by kernel_rfl) (by decide) NoP.np (fun _ => H.sub (by repeat (first | exact ln1 | exact ls1 | exact lr1 | apply lk1 | apply List.Sublist.cons | apply la1)))
     · intro w
       refine sM0 hF h rfl rfl (by decide) ?_
       intro a h
       exact ⟨rfl, h⟩
     clear h; intro a h
     apply dQ0 hF h 1 rfl rfl (by kernel_rfl) (by decide) NoP.np (fun _ => H.sub (by repeat (first | exact ln1 | exact ls1 | exact lr1 | apply lk1 | apply List.Sublist.cons | apply la1)))
     · intro w
       refine sM0 hF h rfl rfl (by decide) ?_
       intro a h
       exact ⟨rfl, h⟩
     clear h; intro a h
     apply dQ0 hF h 2 rfl rfl (by kernel_rfl) (by decide) NoP.np (fun _ => H.sub (by repeat (first | exact ln1 | exact ls1 | exact lr1 | apply lk1 | apply List.Sublist.cons | apply la1)))
     · intro w
       refine sM0 hF h rfl rfl (by decide) ?_
       intro a h
       exact ⟨rfl, h⟩
     clear h; intro a h
     apply dQ0 hF h 3 rfl rfl (by kernel_rfl) (by decide) NoP.np (fun _ => H.sub (by repeat (first | exact ln1 | exact ls1 | exact lr1 | apply lk1 | apply List.Sublist.cons | apply la1)))
     · intro w
       refine sM0 hF h rfl rfl (by decide) ?_
       intro a h
       exact ⟨rfl, h⟩
     clear h; intro a h
     apply dQ0 hF h 4 rfl rfl (by kernel_rfl) (by decide) NoP.np (fun _ => H.sub (by repeat (first | exact ln1 | exact ls1 | exact lr1 | apply lk1 | apply List.Sublist.cons | apply la1)))
     · intro w
       refine sM0 hF h rfl rfl (by decide) ?_
       intro a h
       exact ⟨rfl, h⟩
     clear h; intro a h
     apply dQ0 hF h 5 rfl rfl (by kernel_rfl) (by decide) NoP.np (fun _ => H.sub (by repeat (first | exact ln1 | exact ls1 | exact lr1 | apply lk1 | apply List.Sublist.cons | apply la1)))
     · intro w
       refine sM0 hF h rfl rfl (by decide) ?_
       intro a h
       exact ⟨rfl, h⟩
     clear h; intro a h
     apply dQ0 hF h 6 rfl rfl (by kernel_rfl) (by decide) NoP.np (fun _ => H.sub (by repeat (first | exact ln1 | exact ls1 | exact lr1 | apply lk1 | apply List.Sublist.cons | apply la1)))
     · intro w
       refine i_idxRow hF h rfl rfl rfl (by omega) (by omega) (by decide) ?_
       intro a h
       exact ⟨rfl, h⟩
     clear h; intro a h
     apply dP0 hF h 7 rfl rfl (by kernel_rfl) (by decide) NoP.np (by kernel_rfl) (H.sub (by repeat (first | exact ln1 | exact ls1 | exact lr1 | apply lk1 | apply List.Sublist.cons | apply la1)))
     · intro w H
       refine i_loadRow hF h H rfl rfl (by repeat (first | exact mh1 | apply mt1 | apply ma1)) (by omega) (by decide) ?_
       intro a h
       exact ⟨rfl, h⟩
     clear h; intro a h
     apply dQ0 hF h 8 rfl rfl (by kernel_rfl) (by decide) NoP.np (fun _ => H.sub (by repeat (first | exact ln1 | exact ls1 | exact lr1 | apply lk1 | apply List.Sublist.cons | apply la1)))
     · intro w
       refine sM0 hF h rfl rfl (by decide) ?_
       intro a h
       exact ⟨rfl, h⟩
     clear h; intro a h
     apply dQ0 hF h 9 rfl rfl (by kernel_rfl) (by decide) NoP.np (fun _ => H.sub (by repeat (first | exact ln1 | exact ls1 | exact lr1 | apply lk1 | apply List.Sublist.cons | apply la1)))
     · intro w
       refine sM0 hF h rfl rfl (by decide) ?_
       intro a h
       exact ⟨rfl, h⟩
     clear h; intro a h
     apply dQ0 hF h 10 rfl rfl (by kernel_rfl) (by decide) NoP.np (fun _ => H.sub (by repeat (first | exact ln1 | exact ls1 | exact lr1 | apply lk1 | apply List.Sublist.cons | apply la1)))
     · intro w
       refine i_idxRow hF h rfl rfl rfl (by omega) (by omega) (by decide) ?_
       intro a h
       exact ⟨rfl, h⟩
     clear h; intro a h
     apply dP0 hF h 11 rfl rfl (by kernel_rfl) (by decide) NoP.np (by kernel_rfl) (H.sub (by repeat (first | exact ln1 | exact ls1 | exact lr1 | apply lk1 | apply List.Sublist.cons | apply la1)))
     · intro w H
       refine i_loadRow hF h H rfl rfl (by repeat (first | exact mh1 | apply mt1 | apply ma1)) (by omega) (by decide) ?_
       intro a h
       exact ⟨rfl, h⟩
     clear h; intro a h
     apply dQ0 hF h 12 rfl rfl (by kernel_rfl) (by decide) NoP.np (fun _ => H.sub (by repeat (first | exact ln1 | exact ls1 | exact lr1 | apply lk1 | apply List.Sublist.cons | apply la1)))
     · intro w
       refine i_idxRow hF h rfl rfl rfl (by omega) (by omega) (by decide) ?_
       intro a h
       exact ⟨rfl, h⟩
     clear h; intro a h
     refine dE0 13 rfl (by kernel_rfl) ?_
     refine i_storeRow hF h H rfl rfl rfl (by repeat (first | exact Upd.here | apply Upd.there | apply Upd.app)) (by (try simp only [List.length_set]); omega) ?_
     clear H; intro w H
     refine dNm0 (by kernel_rfl) ?_
     apply dQ0 hF h 14 rfl rfl (by kernel_rfl) (by decide) NoP.np (fun hh => absurd hh (by rw [show ph _ _ = true from by kernel_rfl]; decide))
     · intro w
       refine i_idxRow hF h rfl rfl rfl (by omega) (by omega) (by decide) ?_
       intro a h
       exact ⟨rfl, h⟩
     clear h; intro a h
     refine dE0 15 rfl (by kernel_rfl) ?_
     refine i_storeRow hF h H rfl rfl rfl (by repeat (first | exact Upd.here | apply Upd.there | apply Upd.app)) (by (try simp only [List.length_set]); omega) ?_
     clear H; intro w H
     refine dNm0 (by kernel_rfl) ?_
     first | refine d_endThen (by kernel_rfl) ?_ | refine d_endQ (by kernel_rfl) ?_
     have hsw := swapP (l := l') (i := ((J2 : Int) - 1).toNat) (j := (p : Int).toNat) (by omega) (by omega)
     repeat refine cS0 ?_
     refine cR0 ?_
     refine sM0 hF h rfl rfl (by decide) ?_
     clear h; intro a h
     refine sA0 hF h rfl rfl (by decide) ?_
     clear h; intro a h
     refine sA0 hF h rfl rfl (by decide) ?_
     clear h; intro a h
     first | refine cEt0 ?_ | refine cE0 ?_
     rw [show ((J2 : Int) - 1) = ((J2 - 1 : Nat) : Int) by omega] at h
     refine c_ret ?_
     with_reducible repeat (first | refine xa0 ?_ | refine xb0 ?_ | refine xc0 ?_ | refine xd0 ?_ | refine xe0 (by decide) ?_ | refine xf0 ?_ | refine xg0 ?_ | refine xh0 ?_ | refine xi0 ?_)
     refine leave (fn := Tryz.f115) h Tryz.results115 (.tmp rfl (.tmp rfl (.nil))) ?_
     exact ⟨_, rfl, ⟨J2 - 1, _, rfl, by omega, by omega⟩, _, hsw.trans hp, H⟩
   · repeat refine cS0 ?_
     refine cR0 ?_
     refine sM0 hF h rfl rfl (by decide) ?_
     clear h; intro a h
     refine sM0 hF h rfl rfl (by decide) ?_
     clear h; intro a h
     (first | (refine iC0 hF h rfl rfl rfl (i_gtr_t (by omega)) (by decide) ?_) | (refine iC0 hF h rfl rfl rfl (i_gtr_f (by omega)) (by decide) ?_))
     clear h; intro a h
     first | refine cEt0 ?_ | refine cE0 ?_
     repeat refine cS0 ?_
     refine c_condF h rfl ?_
     first | refine cKt0 ?_ | refine cK0 ?_
     repeat refine cS0 ?_
     refine d_regionL [13, 15] (by kernel_rfl) H ?_
     clear H; intro w H
     apply dQ0 hF h 0 rfl rfl (by kernel_rfl) (by decide) NoP.np (fun _ => H.sub (by repeat (first | exact ln1 | exact ls1 | exact lr1 | apply lk1 | apply List.Sublist.cons | apply la1)))
     · intro w
       refine sM0 hF h rfl rfl (by decide) ?_
       intro a h
       exact ⟨rfl, h⟩
     clear h; intro a h
     apply dQ0 hF h 1 rfl rfl (by kernel_rfl) (by decide) NoP.np (fun _ => H.sub (by repeat (first | exact ln1 | exact ls1 | exact lr1 | apply lk1 | apply List.Sublist.cons | apply la1)))
     · intro w
       refine sM0 hF h rfl rfl (by decide) ?_
       intro a h
       exact ⟨rfl, h⟩
     clear h; intro a h
     apply dQ0 hF h 2 rfl rfl (by kernel_rfl) (by decide) NoP.np (fun _ => H.sub (by repeat (first | exact ln1 | exact ls1 | exact lr1 | apply lk1 | apply List.Sublist.cons | apply la1)))
     · intro w
       refine sM0 hF h rfl rfl (by decide) ?_
       intro a h
       exact ⟨rfl, h⟩
     clear h; intro a h
     apply dQ0 hF h 3 rfl rfl (by kernel_rfl) (by decide) NoP.np (fun _ => H.sub (by repeat (first | exact ln1 | exact ls1 | exact lr1 | apply lk1 | apply List.Sublist.cons | apply la1)))
     · intro w
       refine sM0 hF h rfl rfl (by decide) ?_
       intro a h
       exact ⟨rfl, h⟩
     clear h; intro a h
     apply dQ0 hF h 4 rfl rfl (by kernel_rfl) (by decide) NoP.np (fun _ => H.sub (by repeat (first | exact ln1 | exact ls1 | exact lr1 | apply lk1 | apply List.Sublist.cons | apply la1)))
     · intro w
       refine sM0 hF h rfl rfl (by decide) ?_
       intro a h
       exact ⟨rfl, h⟩
     clear h; intro a h
     apply dQ0 hF h 5 rfl rfl (by kernel_rfl) (by decide) NoP.np (fun _ => H.sub (by repeat (first | exact ln1 | exact ls1 | exact lr1 | apply lk1 | apply List.Sublist.cons | apply la1)))
     · intro w
       refine sM0 hF h rfl rfl (by decide) ?_
       intro a h
       exact ⟨rfl, h⟩
     clear h; intro a h
     apply dQ0 hF h 6 rfl rfl (by kernel_rfl) (by decide) NoP.np (fun _ => H.sub (by repeat (first | exact ln1 | exact ls1 | exact lr1 | apply lk1 | apply List.Sublist.cons | apply la1)))
     · intro w
       refine i_idxRow hF h rfl rfl rfl (by omega) (by omega) (by decide) ?_
       intro a h
       exact ⟨rfl, h⟩
     clear h; intro a h
     apply dP0 hF h 7 rfl rfl (by kernel_rfl) (by decide) NoP.np (by kernel_rfl) (H.sub (by repeat (first | exact ln1 | exact ls1 | exact lr1 | apply lk1 | apply List.Sublist.cons | apply la1)))
     · intro w H
       refine i_loadRow hF h H rfl rfl (by repeat (first | exact mh1 | apply mt1 | apply ma1)) (by omega) (by decide) ?_
       intro a h
       exact ⟨rfl, h⟩
     clear h; intro a h
     apply dQ0 hF h 8 rfl rfl (by kernel_rfl) (by decide) NoP.np (fun _ => H.sub (by repeat (first | exact ln1 | exact ls1 | exact lr1 | apply lk1 | apply List.Sublist.cons | apply la1)))
     · intro w
       refine sM0 hF h rfl rfl (by decide) ?_
       intro a h
       exact ⟨rfl, h⟩
     clear h; intro a h
     apply dQ0 hF h 9 rfl rfl (by kernel_rfl) (by decide) NoP.np (fun _ => H.sub (by repeat (first | exact ln1 | exact ls1 | exact lr1 | apply lk1 | apply List.Sublist.cons | apply la1)))
     · intro w
       refine sM0 hF h rfl rfl (by decide) ?_
       intro a h
       exact ⟨rfl, h⟩
     clear h; intro a h
     apply dQ0 hF h 10 rfl rfl (by kernel_rfl) (by decide) NoP.np (fun _ => H.sub (by repeat (first | exact ln1 | exact ls1 | exact lr1 | apply lk1 | apply List.Sublist.cons | apply la1)))
     · intro w
       refine i_idxRow hF h rfl rfl rfl (by omega) (by omega) (by decide) ?_
       intro a h
       exact ⟨rfl, h⟩
     clear h; intro a h
     apply dP0 hF h 11 rfl rfl (by kernel_rfl) (by decide) NoP.np (by kernel_rfl) (H.sub (by repeat (first | exact ln1 | exact ls1 | exact lr1 | apply lk1 | apply List.Sublist.cons | apply la1)))
     · intro w H
       refine i_loadRow hF h H rfl rfl (by repeat (first | exact mh1 | apply mt1 | apply ma1)) (by omega) (by decide) ?_
       intro a h
       exact ⟨rfl, h⟩
     clear h; intro a h
     apply dQ0 hF h 12 rfl rfl (by kernel_rfl) (by decide) NoP.np (fun _ => H.sub (by repeat (first | exact ln1 | exact ls1 | exact lr1 | apply lk1 | apply List.Sublist.cons | apply la1)))
     · intro w
       refine i_idxRow hF h rfl rfl rfl (by omega) (by omega) (by decide) ?_
       intro a h
       exact ⟨rfl, h⟩
     clear h; intro a h
     refine dE0 13 rfl (by kernel_rfl) ?_
     refine i_storeRow hF h H rfl rfl rfl (by repeat (first | exact Upd.here | apply Upd.there | apply Upd.app)) (by (try simp only [List.length_set]); omega) ?_
     clear H; intro w H
     refine dNm0 (by kernel_rfl) ?_
     apply dQ0 hF h 14 rfl rfl (by kernel_rfl) (by decide) NoP.np (fun hh => absurd hh (by rw [show ph _ _ = true from by kernel_rfl]; decide))
     · intro w
       refine i_idxRow hF h rfl rfl rfl (by omega) (by omega) (by decide) ?_
       intro a h
       exact ⟨rfl, h⟩
     clear h; intro a h
     refine dE0 15 rfl (by kernel_rfl) ?_
     refine i_storeRow hF h H rfl rfl rfl (by repeat (first | exact Upd.here | apply Upd.there | apply Upd.app)) (by (try simp only [List.length_set]); omega) ?_
     clear H; intro w H
     refine dNm0 (by kernel_rfl) ?_
     first | refine d_endThen (by kernel_rfl) ?_ | refine d_endQ (by kernel_rfl) ?_
     have hsw := swapP (l := l') (i := (i2 : Int).toNat) (j := ((J2 : Int) - 1).toNat) (by omega) (by omega)
     repeat refine cS0 ?_
     refine cR0 ?_
     refine sM0 hF h rfl rfl (by decide) ?_
     clear h; intro a h
     refine i_ar64 hF h rfl rfl rfl rfl (by omega) (by omega) (by decide) ?_
     clear h; intro a h
     refine sA0 hF h rfl rfl (by decide) ?_
     clear h; intro a h
     first | refine cEt0 ?_ | refine cE0 ?_
     repeat refine cS0 ?_
     refine cR0 ?_
     refine sM0 hF h rfl rfl (by decide) ?_
     clear h; intro a h
     refine i_ar64 hF h rfl rfl rfl rfl (by omega) (by omega) (by decide) ?_
     clear h; intro a h
     refine sA0 hF h rfl rfl (by decide) ?_
     clear h; intro a h
     refine cE0 ?_
     with_reducible repeat (first | refine xa0 ?_ | refine xb0 ?_ | refine xc0 ?_ | refine xd0 ?_ | refine xe0 (by decide) ?_ | refine xf0 ?_ | refine xg0 ?_ | refine xh0 ?_ | refine xi0 ?_)
     refine ⟨r + 1 - (i2 + 1), by omega, i2 + 1, J2 - 1, _, rfl, by omega, by omega, by omega, by omega, by omega, hsw.trans hp, ?_, H⟩
     rw [show ((J2 - 1 : Nat) : Int) = (J2 : Int) - 1 by omega]
     exact (h.sub (by repeat (first | exact trivial | refine ⟨rfl, ?_⟩)))
end Go.Proofs.YtjlmpghcjgbfjaaGreatDoor.Cw
namespace Go.Proofs.YtjlmpghcjgbfjaaGreatDoor.Cw
open Go Go.RowKit Go.Proofs Ex Cd
set_option maxRecDepth 100000
theorem partial_ret {n0 : Nat} {w0 : World} {b n cap : Nat} {junk : List Value} {X : List (Nat × Obj)} {l : List UInt8} {w : World} (H : St n0 w0 ((b, rowB l junk) :: X) w) (hn : l.length = n) (hn2 : n ≤ 1000000) (p r : Nat) (h1 : p < r) (h2 : r ≤ n) :
 Rets Tryz.prog 112 [sl b n cap, int p, int r] w fun v w' => (∃ q : Bool, v = .bool q) ∧ Mixed n0 w0 b junk X l w' := by
 refine enter Tryz.func112 rfl (Nat.le_of_ble_eq_true rfl) ?_
 intro a h; rw [Tryz.ntmps112] at h
 have hF := Fd.wide
 repeat refine cS0 ?_
 refine cR0 ?_
 refine sA0 hF h rfl rfl (by decide) ?_
 clear h; intro a h
 first | refine cEt0 ?_ | refine cE0 ?_
 repeat refine cS0 ?_
 refine cR0 ?_
 refine sM0 hF h rfl rfl (by decide) ?_
 clear h; intro a h
 refine i_ar64 hF h rfl rfl rfl rfl (by omega) (by omega) (by decide) ?_
 clear h; intro a h
 refine sA0 hF h rfl rfl (by decide) ?_
 clear h; intro a h
 first | refine cEt0 ?_ | refine cE0 ?_
 repeat refine cS0 ?_
 refine cR0 ?_
 refine sA0 hF h rfl rfl (by decide) ?_
 clear h; intro a h
 first | refine cEt0 ?_ | refine cE0 ?_
 repeat refine cS0 ?_
 refine c_block ?_
 refine c_loopN (fun k a' w' => ∃ s i l', k = 5 - s ∧ s ≤ 5 ∧ p + 1 ≤ i ∧ i ≤ r ∧ l'.Perm l ∧ Fr 133 [] [(8, int (s : Nat)), (7, int (i : Nat)), (0, sl b n cap), (1, int p), (2, int r)] a' ∧ St n0 w0 ((b, rowB l' junk) :: X) w') 5 ⟨0, p + 1, l, rfl, by omega, by omega, by omega, .refl _, (h.sub (by repeat (first | exact trivial | refine ⟨rfl, ?_⟩))), H⟩ ?_
 clear h H
 rintro k a w ⟨s, i, l', rfl, hs, hi1, hi2, hp, h, H⟩
 have hlen := hp.length_eq
 rw [hn] at hlen
 by_cases hs5 : s < 5
 · repeat refine cS0 ?_
   refine cR0 ?_
   refine sM0 hF h rfl rfl (by decide) ?_
   clear h; intro a h
   (first | (refine iC0 hF h rfl rfl rfl (i_lss_t (by omega)) (by decide) ?_) | (refine iC0 hF h rfl rfl rfl (i_lss_f (by omega)) (by decide) ?_))
   clear h; intro a h
   first | refine cEt0 ?_ | refine cE0 ?_
   repeat refine cS0 ?_
   refine c_condT h rfl ?_
   first | refine cKt0 ?_ | refine cK0 ?_
   repeat refine cS0 ?_
   refine c_block ?_
   repeat refine cS0 ?_
   refine c_join (fun a' w' => ∃ i', i ≤ i' ∧ i' ≤ r ∧ Fr 133 [] [(8, int (s : Nat)), (7, int (i' : Nat)), (0, sl b n cap), (1, int p), (2, int r)] a' ∧ St n0 w0 ((b, rowB l' junk) :: X) w') ?_ ?_
   · refine c_block ?_
     refine c_loopN (fun k a' w' => ∃ i', k = r - i' ∧ i ≤ i' ∧ i' ≤ r ∧ Fr 133 [] [(8, int (s : Nat)), (7, int (i' : Nat)), (0, sl b n cap), (1, int p), (2, int r)] a' ∧ St n0 w0 ((b, rowB l' junk) :: X) w') (r - i) ⟨i, rfl, by omega, by omega, (h.sub (by repeat (first | exact trivial | refine ⟨rfl, ?_⟩))), H⟩ ?_
     clear h H
     rintro k a w ⟨i', rfl, g1, g2, h, H⟩
     by_cases hi : i' < r
     · repeat refine cS0 ?_
       refine d_regionL [] (by kernel_rfl) H ?_
       clear H; intro w H
       apply dQ0 hF h 0 rfl rfl (by kernel_rfl) (by decide) NoP.np (fun _ => H.sub (by repeat (first | exact ln1 | exact ls1 | exact lr1 | apply lk1 | apply List.Sublist.cons | apply la1)))
       · intro w
         refine sM0 hF h rfl rfl (by decide) ?_
         intro a h
         exact ⟨rfl, h⟩
       clear h; intro a h
       apply dQ0 hF h 1 rfl rfl (by kernel_rfl) (by decide) NoP.np (fun _ => H.sub (by repeat (first | exact ln1 | exact ls1 | exact lr1 | apply lk1 | apply List.Sublist.cons | apply la1)))
       · intro w
         refine sM0 hF h rfl rfl (by decide) ?_
         intro a h
         exact ⟨rfl, h⟩
       clear h; intro a h
       apply dQ0 hF h 2 rfl rfl (by kernel_rfl) (by decide) NoP.np (fun _ => H.sub (by repeat (first | exact ln1 | exact ls1 | exact lr1 | apply lk1 | apply List.Sublist.cons | apply la1)))
       · intro w
         (first | (refine iC0 hF h rfl rfl rfl (i_lss_t (by omega)) (by decide) ?_) | (refine iC0 hF h rfl rfl rfl (i_lss_f (by omega)) (by decide) ?_))
         intro a h
         exact ⟨rfl, h⟩
       clear h; intro a h
       apply dQ0 hF h 3 rfl rfl (by kernel_rfl) (by decide) NoP.np (fun _ => H.sub (by repeat (first | exact ln1 | exact ls1 | exact lr1 | apply lk1 | apply List.Sublist.cons | apply la1)))
       · intro w
         refine sM0 hF h rfl rfl (by decide) ?_
         intro a h
         exact ⟨rfl, h⟩
       clear h; intro a h
       apply dQ0 hF h 4 rfl rfl (by kernel_rfl) (by decide) NoP.np (fun _ => H.sub (by repeat (first | exact ln1 | exact ls1 | exact lr1 | apply lk1 | apply List.Sublist.cons | apply la1)))
       · intro w
         first | (refine sK0 hF h rfl (by decide) ?_; intro a h) | (refine sM0 hF h rfl rfl (by decide) ?_; intro a h)
         exact ⟨rfl, h⟩
       clear h; intro a h
       apply dQ0 hF h 5 rfl rfl (by kernel_rfl) (by decide) NoP.np (fun _ => H.sub (by repeat (first | exact ln1 | exact ls1 | exact lr1 | apply lk1 | apply List.Sublist.cons | apply la1)))
       · intro w
         first | (refine sK0 hF h rfl (by decide) ?_; intro a h) | (refine sM0 hF h rfl rfl (by decide) ?_; intro a h)
         exact ⟨rfl, h⟩
       clear h; intro a h
       apply dQ0 hF h 6 rfl rfl (by kernel_rfl) (by decide) NoP.np (fun _ => H.sub (by repeat (first | exact ln1 | exact ls1 | exact lr1 | apply lk1 | apply List.Sublist.cons | apply la1)))
       · intro w
         first | (refine sK0 hF h rfl (by decide) ?_; intro a h) | (refine i_idxRow hF h rfl rfl rfl (by omega) (by omega) (by decide) ?_; intro a h)
         exact ⟨rfl, h⟩
       clear h; intro a h
       apply dP0 hF h 7 rfl rfl (by kernel_rfl) (by decide) NoP.np (by kernel_rfl) (H.sub (by repeat (first | exact ln1 | exact ls1 | exact lr1 | apply lk1 | apply List.Sublist.cons | apply la1)))
       · intro w H
         first | (refine sK0 hF h rfl (by decide) ?_; intro a h) | (refine i_loadRow hF h H rfl rfl (by repeat (first | exact mh1 | apply mt1 | apply ma1)) (by omega) (by decide) ?_; intro a h)
         exact ⟨rfl, h⟩
       clear h; intro a h
       apply dQ0 hF h 8 rfl rfl (by kernel_rfl) (by decide) NoP.np (fun _ => H.sub (by repeat (first | exact ln1 | exact ls1 | exact lr1 | apply lk1 | apply List.Sublist.cons | apply la1)))
       · intro w
         first | (refine sK0 hF h rfl (by decide) ?_; intro a h) | (refine sM0 hF h rfl rfl (by decide) ?_; intro a h)
         exact ⟨rfl, h⟩
       clear h; intro a h
       apply dQ0 hF h 9 rfl rfl (by kernel_rfl) (by decide) NoP.np (fun _ => H.sub (by repeat (first | exact ln1 | exact ls1 | exact lr1 | apply lk1 | apply List.Sublist.cons | apply la1)))
       · intro w
         first | (refine sK0 hF h rfl (by decide) ?_; intro a h) | (refine sM0 hF h rfl rfl (by decide) ?_; intro a h)
         exact ⟨rfl, h⟩
       clear h; intro a h
       apply dQ0 hF h 10 rfl rfl (by kernel_rfl) (by decide) NoP.np (fun _ => H.sub (by repeat (first | exact ln1 | exact ls1 | exact lr1 | apply lk1 | apply List.Sublist.cons | apply la1)))
       · intro w
         first | (refine sK0 hF h rfl (by decide) ?_; intro a h) | (refine i_ar64 hF h rfl rfl rfl rfl (by omega) (by omega) (by decide) ?_; intro a h)
         exact ⟨rfl, h⟩
       clear h; intro a h
       apply dQ0 hF h 11 rfl rfl (by kernel_rfl) (by decide) NoP.np (fun _ => H.sub (by repeat (first | exact ln1 | exact ls1 | exact lr1 | apply lk1 | apply List.Sublist.cons | apply la1)))
       · intro w
         first | (refine sK0 hF h rfl (by decide) ?_; intro a h) | (refine i_idxRow hF h rfl rfl rfl (by omega) (by omega) (by decide) ?_; intro a h)
         exact ⟨rfl, h⟩
       clear h; intro a h
       apply dP0 hF h 12 rfl rfl (by kernel_rfl) (by decide) NoP.np (by kernel_rfl) (H.sub (by repeat (first | exact ln1 | exact ls1 | exact lr1 | apply lk1 | apply List.Sublist.cons | apply la1)))
       · intro w H
         first | (refine sK0 hF h rfl (by decide) ?_; intro a h) | (refine i_loadRow hF h H rfl rfl (by repeat (first | exact mh1 | apply mt1 | apply ma1)) (by omega) (by decide) ?_; intro a h)
         exact ⟨rfl, h⟩
       clear h; intro a h
       refine dE0 13 rfl (by kernel_rfl) ?_
       first | (refine sK0 hF h rfl (by decide) ?_; clear h; intro a h) | (refine i_call hF h rfl (less_ret _ _ _) rfl (by decide) ?_; clear h; rintro _ w ⟨q, rfl, hb⟩ a h; replace H := H.call hb; clear hb)
       refine dN0 (H.sub (by repeat (first | exact ln1 | exact ls1 | exact lr1 | apply lk1 | apply List.Sublist.cons | apply la1))) ?_
       apply dQ0 hF h 14 rfl rfl (by kernel_rfl) (by decide) NoP.np (fun _ => H.sub (by repeat (first | exact ln1 | exact ls1 | exact lr1 | apply lk1 | apply List.Sublist.cons | apply la1)))
       · intro w
         first | (refine sK0 hF h rfl (by decide) ?_; intro a h) | (refine i_not hF h rfl rfl (by decide) ?_; intro a h; try simp only [Bool.not_true, Bool.not_false] at h)
         exact ⟨rfl, h⟩
       clear h; intro a h
       apply dQ0 hF h 15 rfl rfl (by kernel_rfl) (by decide) NoP.np (fun _ => H.sub (by repeat (first | exact ln1 | exact ls1 | exact lr1 | apply lk1 | apply List.Sublist.cons | apply la1)))
       · intro w
         refine s_pick hF h rfl rfl rfl (by decide) ?_
         intro a h
         exact ⟨rfl, h⟩
       clear h; intro a h
       first | refine d_endThen (by kernel_rfl) ?_ | refine d_endQ (by kernel_rfl) ?_
       cases q
       · repeat refine cS0 ?_
         refine c_condT h rfl ?_
         first | refine cKt0 ?_ | refine cK0 ?_
         refine c_block ?_
         repeat refine cS0 ?_
         refine cR0 ?_
         refine sM0 hF h rfl rfl (by decide) ?_
         clear h; intro a h
         refine i_ar64 hF h rfl rfl rfl rfl (by omega) (by omega) (by decide) ?_
         clear h; intro a h
         refine sA0 hF h rfl rfl (by decide) ?_
         clear h; intro a h
         refine cE0 ?_
         with_reducible repeat (first | refine xa0 ?_ | refine xb0 ?_ | refine xc0 ?_ | refine xd0 ?_ | refine xe0 (by decide) ?_ | refine xf0 ?_ | refine xg0 ?_ | refine xh0 ?_ | refine xi0 ?_)
         exact ⟨r - (i' + 1), by omega, i' + 1, rfl, by omega, by omega, (h.sub (by repeat (first | exact trivial | refine ⟨rfl, ?_⟩))), H⟩
       · repeat refine cS0 ?_
         refine c_condF h rfl ?_
         refine c_exit ?_
         with_reducible repeat (first | refine xa0 ?_ | refine xb0 ?_ | refine xc0 ?_ | refine xd0 ?_ | refine xe0 (by decide) ?_ | refine xf0 ?_ | refine xg0 ?_ | refine xh0 ?_ | refine xi0 ?_)
         exact ⟨i', g1, g2, (h.sub (by repeat (first | exact trivial | refine ⟨rfl, ?_⟩))), H⟩
     · repeat refine cS0 ?_
       refine d_regionL [] (by kernel_rfl) H ?_
       clear H; intro w H
       apply dQ0 hF h 0 rfl rfl (by kernel_rfl) (by decide) NoP.np (fun _ => H.sub (by repeat (first | exact ln1 | exact ls1 | exact lr1 | apply lk1 | apply List.Sublist.cons | apply la1)))
       · intro w
         refine sM0 hF h rfl rfl (by decide) ?_
         intro a h
         exact ⟨rfl, h⟩
       clear h; intro a h
       apply dQ0 hF h 1 rfl rfl (by kernel_rfl) (by decide) NoP.np (fun _ => H.sub (by repeat (first | exact ln1 | exact ls1 | exact lr1 | apply lk1 | apply List.Sublist.cons | apply la1)))
       · intro w
         refine sM0 hF h rfl rfl (by decide) ?_
         intro a h
         exact ⟨rfl, h⟩
       clear h; intro a h
       apply dQ0 hF h 2 rfl rfl (by kernel_rfl) (by decide) NoP.np (fun _ => H.sub (by repeat (first | exact ln1 | exact ls1 | exact lr1 | apply lk1 | apply List.Sublist.cons | apply la1)))
       · intro w
         (first | (refine iC0 hF h rfl rfl rfl (i_lss_t (by omega)) (by decide) ?_) | (refine iC0 hF h rfl rfl rfl (i_lss_f (by omega)) (by decide) ?_))
         intro a h
         exact ⟨rfl, h⟩
       clear h; intro a h
       apply dQ0 hF h 3 rfl rfl (by kernel_rfl) (by decide) NoP.np (fun _ => H.sub (by repeat (first | exact ln1 | exact ls1 | exact lr1 | apply lk1 | apply List.Sublist.cons | apply la1)))
       · intro w
         refine sM0 hF h rfl rfl (by decide) ?_
         intro a h
         exact ⟨rfl, h⟩
       clear h; intro a h
       apply dQ0 hF h 4 rfl rfl (by kernel_rfl) (by decide) NoP.np (fun _ => H.sub (by repeat (first | exact ln1 | exact ls1 | exact lr1 | apply lk1 | apply List.Sublist.cons | apply la1)))
       · intro w
         first | (refine sK0 hF h rfl (by decide) ?_; intro a h) | (refine sM0 hF h rfl rfl (by decide) ?_; intro a h)
         exact ⟨rfl, h⟩
       clear h; intro a h
       apply dQ0 hF h 5 rfl rfl (by kernel_rfl) (by decide) NoP.np (fun _ => H.sub (by repeat (first | exact ln1 | exact ls1 | exact lr1 | apply lk1 | apply List.Sublist.cons | apply la1)))
       · intro w
         first | (refine sK0 hF h rfl (by decide) ?_; intro a h) | (refine sM0 hF h rfl rfl (by decide) ?_; intro a h)
         exact ⟨rfl, h⟩
       clear h; intro a h
       apply dQ0 hF h 6 rfl rfl (by kernel_rfl) (by decide) NoP.np (fun _ => H.sub (by repeat (first | exact ln1 | exact ls1 | exact lr1 | apply lk1 | apply List.Sublist.cons | apply la1)))
       · intro w
         first | (refine sK0 hF h rfl (by decide) ?_; intro a h) | (refine i_idxRow hF h rfl rfl rfl (by omega) (by omega) (by decide) ?_; intro a h)
         exact ⟨rfl, h⟩
       clear h; intro a h
       apply dP0 hF h 7 rfl rfl (by kernel_rfl) (by decide) NoP.np (by kernel_rfl) (H.sub (by repeat (first | exact ln1 | exact ls1 | exact lr1 | apply lk1 | apply List.Sublist.cons | apply la1)))
       · intro w H
         first | (refine sK0 hF h rfl (by decide) ?_; intro a h) | (refine i_loadRow hF h H rfl rfl (by repeat (first | exact mh1 | apply mt1 | apply ma1)) (by omega) (by decide) ?_; intro a h)
         exact ⟨rfl, h⟩
       clear h; intro a h
       apply dQ0 hF h 8 rfl rfl (by kernel_rfl) (by decide) NoP.np (fun _ => H.sub (by repeat (first | exact ln1 | exact ls1 | exact lr1 | apply lk1 | apply List.Sublist.cons | apply la1)))
       · intro w
         first | (refine sK0 hF h rfl (by decide) ?_; intro a h) | (refine sM0 hF h rfl rfl (by decide) ?_; intro a h)
         exact ⟨rfl, h⟩
       clear h; intro a h
       apply dQ0 hF h 9 rfl rfl (by kernel_rfl) (by decide) NoP.np (fun _ => H.sub (by repeat (first | exact ln1 | exact ls1 | exact lr1 | apply lk1 | apply List.Sublist.cons | apply la1)))
       · intro w
         first | (refine sK0 hF h rfl (by decide) ?_; intro a h) | (refine sM0 hF h rfl rfl (by decide) ?_; intro a h)
         exact ⟨rfl, h⟩
       clear h; intro a h
       apply dQ0 hF h 10 rfl rfl (by kernel_rfl) (by decide) NoP.np (fun _ => H.sub (by repeat (first | exact ln1 | exact ls1 | exact lr1 | apply lk1 | apply List.Sublist.cons | apply la1)))
       · intro w
         first | (refine sK0 hF h rfl (by decide) ?_; intro a h) | (refine i_ar64 hF h rfl rfl rfl rfl (by omega) (by omega) (by decide) ?_; intro a h)
         exact ⟨rfl, h⟩
       clear h; intro a h
       apply dQ0 hF h 11 rfl rfl (by kernel_rfl) (by decide) NoP.np (fun _ => H.sub (by repeat (first | exact ln1 | exact ls1 | exact lr1 | apply lk1 | apply List.Sublist.cons | apply la1)))
       · intro w
         first | (refine sK0 hF h rfl (by decide) ?_; intro a h) | (refine i_idxRow hF h rfl rfl rfl (by omega) (by omega) (by decide) ?_; intro a h)
         exact ⟨rfl, h⟩
       clear h; intro a h
       apply dP0 hF h 12 rfl rfl (by kernel_rfl) (by decide) NoP.np (by kernel_rfl) (H.sub (by repeat (first | exact ln1 | exact ls1 | exact lr1 | apply lk1 | apply List.Sublist.cons | apply la1)))
       · intro w H
         first | (refine sK0 hF h rfl (by decide) ?_; intro a h) | (refine i_loadRow hF h H rfl rfl (by repeat (first | exact mh1 | apply mt1 | apply ma1)) (by omega) (by decide) ?_; intro a h)
         exact ⟨rfl, h⟩
       clear h; intro a h
       refine dE0 13 rfl (by kernel_rfl) ?_
       first | (refine sK0 hF h rfl (by decide) ?_; clear h; intro a h) | (refine i_call hF h rfl (less_ret _ _ _) rfl (by decide) ?_; clear h; rintro _ w ⟨q, rfl, hb⟩ a h; replace H := H.call hb; clear hb)
       refine dN0 (H.sub (by repeat (first | exact ln1 | exact ls1 | exact lr1 | apply lk1 | apply List.Sublist.cons | apply la1))) ?_
       apply dQ0 hF h 14 rfl rfl (by kernel_rfl) (by decide) NoP.np (fun _ => H.sub (by repeat (first | exact ln1 | exact ls1 | exact lr1 | apply lk1 | apply List.Sublist.cons | apply la1)))
       · intro w
         first | (refine sK0 hF h rfl (by decide) ?_; intro a h) | (refine i_not hF h rfl rfl (by decide) ?_; intro a h; try simp only [Bool.not_true, Bool.not_false] at h)
         exact ⟨rfl, h⟩
       clear h; intro a h
       apply dQ0 hF h 15 rfl rfl (by kernel_rfl) (by decide) NoP.np (fun _ => H.sub (by repeat (first | exact ln1 | exact ls1 | exact lr1 | apply lk1 | apply List.Sublist.cons | apply la1)))
       · intro w
         refine s_pick hF h rfl rfl rfl (by decide) ?_
         intro a h
         exact ⟨rfl, h⟩
       clear h; intro a h
       first | refine d_endThen (by kernel_rfl) ?_ | refine d_endQ (by kernel_rfl) ?_
       repeat refine cS0 ?_
       refine c_condF h rfl ?_
       refine c_exit ?_
       with_reducible repeat (first | refine xa0 ?_ | refine xb0 ?_ | refine xc0 ?_ | refine xd0 ?_ | refine xe0 (by decide) ?_ | refine xf0 ?_ | refine xg0 ?_ | refine xh0 ?_ | refine xi0 ?_)
       exact ⟨i', g1, g2, (h.sub (by repeat (first | exact trivial | refine ⟨rfl, ?_⟩))), H⟩
   clear h H
   rintro a w ⟨i2, k1, k2, h, H⟩
   by_cases hir : i2 = r
   · repeat refine cS0 ?_
     refine cR0 ?_
     refine sM0 hF h rfl rfl (by decide) ?_
     clear h; intro a h
     refine sM0 hF h rfl rfl (by decide) ?_
     clear h; intro a h
     (first | (refine iC0 hF h rfl rfl rfl (i_eql_t (by omega)) (by decide) ?_) | (refine iC0 hF h rfl rfl rfl (i_eql_f (by omega)) (by decide) ?_))
     clear h; intro a h
     first | refine cEt0 ?_ | refine cE0 ?_
     repeat refine cS0 ?_
     refine c_condT h rfl ?_
     repeat refine cS0 ?_
     refine cR0 ?_
     refine sA0 hF h rfl rfl (by decide) ?_
     clear h; intro a h
     first | refine cEt0 ?_ | refine cE0 ?_
     refine c_ret ?_
     with_reducible repeat (first | refine xa0 ?_ | refine xb0 ?_ | refine xc0 ?_ | refine xd0 ?_ | refine xe0 (by decide) ?_ | refine xf0 ?_ | refine xg0 ?_ | refine xh0 ?_ | refine xi0 ?_)
     refine leave (fn := Tryz.f112) h Tryz.results112 (.tmp rfl (.nil)) ?_
     exact ⟨_, rfl, ⟨_, rfl⟩, l', hp, H⟩
   · repeat refine cS0 ?_
     refine cR0 ?_
     refine sM0 hF h rfl rfl (by decide) ?_
     clear h; intro a h
     refine sM0 hF h rfl rfl (by decide) ?_
     clear h; intro a h
     (first | (refine iC0 hF h rfl rfl rfl (i_eql_t (by omega)) (by decide) ?_) | (refine iC0 hF h rfl rfl rfl (i_eql_f (by omega)) (by decide) ?_))
     clear h; intro a h
     first | refine cEt0 ?_ | refine cE0 ?_
     repeat refine cS0 ?_
     refine c_condF h rfl ?_
     first | refine cKt0 ?_ | refine cK0 ?_
     by_cases h50 : r - p < 50
     · repeat refine cS0 ?_
       refine cR0 ?_
       refine sM0 hF h rfl rfl (by decide) ?_
       clear h; intro a h
       refine sM0 hF h rfl rfl (by decide) ?_
       clear h; intro a h
       refine i_ar64 hF h rfl rfl rfl rfl (by omega) (by omega) (by decide) ?_
       clear h; intro a h
       (first | (refine iC0 hF h rfl rfl rfl (i_lss_t (by omega)) (by decide) ?_) | (refine iC0 hF h rfl rfl rfl (i_lss_f (by omega)) (by decide) ?_))
       clear h; intro a h
       first | refine cEt0 ?_ | refine cE0 ?_
       repeat refine cS0 ?_
       refine c_condT h rfl ?_
       repeat refine cS0 ?_
       refine cR0 ?_
       refine sA0 hF h rfl rfl (by decide) ?_
       clear h; intro a h
       first | refine cEt0 ?_ | refine cE0 ?_
       refine c_ret ?_
       with_reducible repeat (first | refine xa0 ?_ | refine xb0 ?_ | refine xc0 ?_ | refine xd0 ?_ | refine xe0 (by decide) ?_ | refine xf0 ?_ | refine xg0 ?_ | refine xh0 ?_ | refine xi0 ?_)
       refine leave (fn := Tryz.f112) h Tryz.results112 (.tmp rfl (.nil)) ?_
       exact ⟨_, rfl, ⟨_, rfl⟩, l', hp, H⟩
     · repeat refine cS0 ?_
       refine cR0 ?_
       refine sM0 hF h rfl rfl (by decide) ?_
       clear h; intro a h
       refine sM0 hF h rfl rfl (by decide) ?_
       clear h; intro a h
       refine i_ar64 hF h rfl rfl rfl rfl (by omega) (by omega) (by decide) ?_
       clear h; intro a h
       (first | (refine iC0 hF h rfl rfl rfl (i_lss_t (by omega)) (by decide) ?_) | (refine iC0 hF h rfl rfl rfl (i_lss_f (by omega)) (by decide) ?_))
       clear h; intro a h
       first | refine cEt0 ?_ | refine cE0 ?_
       repeat refine cS0 ?_
       refine c_condF h rfl ?_
       first | refine cKt0 ?_ | refine cK0 ?_
       repeat refine cS0 ?_
       refine d_regionL [15, 17] (by kernel_rfl) H ?_
       clear H; intro w H
       apply dQ0 hF h 0 rfl rfl (by kernel_rfl) (by decide) NoP.np (fun _ => H.sub (by repeat (first | exact ln1 | exact ls1 | exact lr1 | apply lk1 | apply List.Sublist.cons | apply la1)))
       · intro w
         refine sM0 hF h rfl rfl (by decide) ?_
         intro a h
         exact ⟨rfl, h⟩
       clear h; intro a h
       apply dQ0 hF h 1 rfl rfl (by kernel_rfl) (by decide) NoP.np (fun _ => H.sub (by repeat (first | exact ln1 | exact ls1 | exact lr1 | apply lk1 | apply List.Sublist.cons | apply la1)))
       · intro w
         refine sM0 hF h rfl rfl (by decide) ?_
         intro a h
         exact ⟨rfl, h⟩
       clear h; intro a h
       apply dQ0 hF h 2 rfl rfl (by kernel_rfl) (by decide) NoP.np (fun _ => H.sub (by repeat (first | exact ln1 | exact ls1 | exact lr1 | apply lk1 | apply List.Sublist.cons | apply la1)))
       · intro w
         refine sM0 hF h rfl rfl (by decide) ?_
         intro a h
         exact ⟨rfl, h⟩
       clear h; intro a h
       apply dQ0 hF h 3 rfl rfl (by kernel_rfl) (by decide) NoP.np (fun _ => H.sub (by repeat (first | exact ln1 | exact ls1 | exact lr1 | apply lk1 | apply List.Sublist.cons | apply la1)))
       · intro w
         refine sM0 hF h rfl rfl (by decide) ?_
         intro a h
         exact ⟨rfl, h⟩
       clear h; intro a h
       apply dQ0 hF h 4 rfl rfl (by kernel_rfl) (by decide) NoP.np (fun _ => H.sub (by repeat (first | exact ln1 | exact ls1 | exact lr1 | apply lk1 | apply List.Sublist.cons | apply la1)))
       · intro w
         refine i_ar64 hF h rfl rfl rfl rfl (by omega) (by omega) (by decide) ?_
         intro a h
         exact ⟨rfl, h⟩
       clear h; intro a h
       apply dQ0 hF h 5 rfl rfl (by kernel_rfl) (by decide) NoP.np (fun _ => H.sub (by repeat (first | exact ln1 | exact ls1 | exact lr1 | apply lk1 | apply List.Sublist.cons | apply la1)))
       · intro w
         refine sM0 hF h rfl rfl (by decide) ?_
         intro a h
         exact ⟨rfl, h⟩
       clear h; intro a h
       apply dQ0 hF h 6 rfl rfl (by kernel_rfl) (by decide) NoP.np (fun _ => H.sub (by repeat (first | exact ln1 | exact ls1 | exact lr1 | apply lk1 | apply List.Sublist.cons | apply la1)))
       · intro w
         refine sM0 hF h rfl rfl (by decide) ?_
         intro a h
         exact ⟨rfl, h⟩
       clear h; intro a h
       apply dQ0 hF h 7 rfl rfl (by kernel_rfl) (by decide) NoP.np (fun _ => H.sub (by repeat (first | exact ln1 | exact ls1 | exact lr1 | apply lk1 | apply List.Sublist.cons | apply la1)))
       · intro w
         refine i_ar64 hF h rfl rfl rfl rfl (by omega) (by omega) (by decide) ?_
         intro a h
         exact ⟨rfl, h⟩
       clear h; intro a h
       apply dQ0 hF h 8 rfl rfl (by kernel_rfl) (by decide) NoP.np (fun _ => H.sub (by repeat (first | exact ln1 | exact ls1 | exact lr1 | apply lk1 | apply List.Sublist.cons | apply la1)))
       · intro w
         refine i_idxRow hF h rfl rfl rfl (by omega) (by omega) (by decide) ?_
         intro a h
         exact ⟨rfl, h⟩
       clear h; intro a h
       apply dP0 hF h 9 rfl rfl (by kernel_rfl) (by decide) NoP.np (by kernel_rfl) (H.sub (by repeat (first | exact ln1 | exact ls1 | exact lr1 | apply lk1 | apply List.Sublist.cons | apply la1)))
       · intro w H
         refine i_loadRow hF h H rfl rfl (by repeat (first | exact mh1 | apply mt1 | apply ma1)) (by omega) (by decide) ?_
         intro a h
         exact ⟨rfl, h⟩
       clear h; intro a h
       apply dQ0 hF h 10 rfl rfl (by kernel_rfl) (by decide) NoP.np (fun _ => H.sub (by repeat (first | exact ln1 | exact ls1 | exact lr1 | apply lk1 | apply List.Sublist.cons | apply la1)))
       · intro w
         refine sM0 hF h rfl rfl (by decide) ?_
         intro a h
         exact ⟨rfl, h⟩
       clear h; intro a h
       apply dQ0 hF h 11 rfl rfl (by kernel_rfl) (by decide) NoP.np (fun _ => H.sub (by repeat (first | exact ln1 | exact ls1 | exact lr1 | apply lk1 | apply List.Sublist.cons | apply la1)))
       · intro w
         refine sM0 hF h rfl rfl (by decide) ?_
         intro a h
         exact ⟨rfl, h⟩
       clear h; intro a h
       apply dQ0 hF h 12 rfl rfl (by kernel_rfl) (by decide) NoP.np (fun _ => H.sub (by repeat (first | exact ln1 | exact ls1 | exact lr1 | apply lk1 | apply List.Sublist.cons | apply la1)))
       · intro w
         refine i_idxRow hF h rfl rfl rfl (by omega) (by omega) (by decide) ?_
         intro a h
         exact ⟨rfl, h⟩
       clear h; intro a h
       apply dP0 hF h 13 rfl rfl (by kernel_rfl) (by decide) NoP.np (by kernel_rfl) (H.sub (by repeat (first | exact ln1 | exact ls1 | exact lr1 | apply lk1 | apply List.Sublist.cons | apply la1)))
       · intro w H
         refine i_loadRow hF h H rfl rfl (by repeat (first | exact mh1 | apply mt1 | apply ma1)) (by omega) (by decide) ?_
         intro a h
         exact ⟨rfl, h⟩
       clear h; intro a h
       apply dQ0 hF h 14 rfl rfl (by kernel_rfl) (by decide) NoP.np (fun _ => H.sub (by repeat (first | exact ln1 | exact ls1 | exact lr1 | apply lk1 | apply List.Sublist.cons | apply la1)))
       · intro w
         refine i_idxRow hF h rfl rfl rfl (by omega) (by omega) (by decide) ?_
         intro a h
         exact ⟨rfl, h⟩
       clear h; intro a h
       refine dE0 15 rfl (by kernel_rfl) ?_
       refine i_storeRow hF h H rfl rfl rfl (by repeat (first | exact Upd.here | apply Upd.there | apply Upd.app)) (by (try simp only [List.length_set]); omega) ?_
       clear H; intro w H
       refine dNm0 (by kernel_rfl) ?_
       apply dQ0 hF h 16 rfl rfl (by kernel_rfl) (by decide) NoP.np (fun hh => absurd hh (by rw [show ph _ _ = true from by kernel_rfl]; decide))
       · intro w
         refine i_idxRow hF h rfl rfl rfl (by omega) (by omega) (by decide) ?_
         intro a h
         exact ⟨rfl, h⟩
       clear h; intro a h
       refine dE0 17 rfl (by kernel_rfl) ?_
       refine i_storeRow hF h H rfl rfl rfl (by repeat (first | exact Upd.here | apply Upd.there | apply Upd.app)) (by (try simp only [List.length_set]); omega) ?_
       clear H; intro w H
       refine dNm0 (by kernel_rfl) ?_
       first | refine d_endThen (by kernel_rfl) ?_ | refine d_endQ (by kernel_rfl) ?_
       have hsw := (swapP (l := l') (i := (i2 : Int).toNat) (j := ((i2 : Int) - 1).toNat) (by omega) (by omega)).trans hp
       obtain ⟨l1, hl1⟩ : ∃ l1, l1 = (l'.set (i2 : Int).toNat (l'.getD ((i2 : Int) - 1).toNat 0)).set ((i2 : Int) - 1).toNat (l'.getD (i2 : Int).toNat 0) := ⟨_, rfl⟩
       rw [← hl1] at H hsw
       clear hl1
       refine cS0 ?_
       refine c_join (fun a' w' => ∃ l', l'.Perm l ∧ Fr 133 [] [(8, int (s : Nat)), (7, int (i2 : Nat)), (0, sl b n cap), (1, int p), (2, int r)] a' ∧ St n0 w0 ((b, rowB l' junk) :: X) w') ?_ ?_
       · by_cases h2p : p + 2 ≤ i2
         · repeat refine cS0 ?_
           refine cR0 ?_
           refine sM0 hF h rfl rfl (by decide) ?_
           clear h; intro a h
           refine sM0 hF h rfl rfl (by decide) ?_
           clear h; intro a h
           refine i_ar64 hF h rfl rfl rfl rfl (by omega) (by omega) (by decide) ?_
           clear h; intro a h
           (first | (refine iC0 hF h rfl rfl rfl (i_geq_t (by omega)) (by decide) ?_) | (refine iC0 hF h rfl rfl rfl (i_geq_f (by omega)) (by decide) ?_))
           clear h; intro a h
           first | refine cEt0 ?_ | refine cE0 ?_
           repeat refine cS0 ?_
           refine c_condT h rfl ?_
           repeat refine cS0 ?_
           refine cR0 ?_
           refine sM0 hF h rfl rfl (by decide) ?_
           clear h; intro a h
           refine i_ar64 hF h rfl rfl rfl rfl (by omega) (by omega) (by decide) ?_
           clear h; intro a h
           refine sA0 hF h rfl rfl (by decide) ?_
           clear h; intro a h
           first | refine cEt0 ?_ | refine cE0 ?_
           rw [show ((i2 : Int) - 1) = ((i2 - 1 : Nat) : Int) by omega] at h
           refine c_block ?_
           refine c_loopN (fun k a' w' => ∃ j l', j = k ∧ j < i2 ∧ l'.Perm l ∧ Fr 133 [] [(9, int (j : Nat)), (8, int (s : Nat)), (7, int (i2 : Nat)), (0, sl b n cap), (1, int p), (2, int r)] a' ∧ St n0 w0 ((b, rowB l' junk) :: X) w') (i2 - 1) ⟨i2 - 1, l1, rfl, by omega, hsw, (h.sub (by repeat (first | exact trivial | refine ⟨rfl, ?_⟩))), H⟩ ?_
           clear h H hsw
           rintro k a w ⟨j, l', rfl, hj, hp, h, H⟩
           have hlen := hp.length_eq
           rw [hn] at hlen
           by_cases hj1 : 1 ≤ j
           · repeat refine cS0 ?_
             refine cR0 ?_
             refine sM0 hF h rfl rfl (by decide) ?_
             clear h; intro a h
             (first | (refine iC0 hF h rfl rfl rfl (i_geq_t (by omega)) (by decide) ?_) | (refine iC0 hF h rfl rfl rfl (i_geq_f (by omega)) (by decide) ?_))
             clear h; intro a h
             first | refine cEt0 ?_ | refine cE0 ?_
             repeat refine cS0 ?_
             refine c_condT h rfl ?_
             first | refine cKt0 ?_ | refine cK0 ?_
             repeat refine cS0 ?_
             refine c_block ?_
             repeat refine cS0 ?_
             refine d_regionL [] (by kernel_rfl) H ?_
             clear H; intro w H
             apply dQ0 hF h 0 rfl rfl (by kernel_rfl) (by decide) NoP.np (fun _ => H.sub (by repeat (first | exact ln1 | exact ls1 | exact lr1 | apply lk1 | apply List.Sublist.cons | apply la1)))
             · intro w
               refine sM0 hF h rfl rfl (by decide) ?_
               intro a h
               exact ⟨rfl, h⟩
             clear h; intro a h
             apply dQ0 hF h 1 rfl rfl (by kernel_rfl) (by decide) NoP.np (fun _ => H.sub (by repeat (first | exact ln1 | exact ls1 | exact lr1 | apply lk1 | apply List.Sublist.cons | apply la1)))
             · intro w
               refine sM0 hF h rfl rfl (by decide) ?_
               intro a h
               exact ⟨rfl, h⟩
             clear h; intro a h
             apply dQ0 hF h 2 rfl rfl (by kernel_rfl) (by decide) NoP.np (fun _ => H.sub (by repeat (first | exact ln1 | exact ls1 | exact lr1 | apply lk1 | apply List.Sublist.cons | apply la1)))
             · intro w
               refine i_idxRow hF h rfl rfl rfl (by omega) (by omega) (by decide) ?_
               intro a h
               exact ⟨rfl, h⟩
             clear h; intro a h
             apply dP0 hF h 3 rfl rfl (by kernel_rfl) (by decide) NoP.np (by kernel_rfl) (H.sub (by repeat (first | exact ln1 | exact ls1 | exact lr1 | apply lk1 | apply List.Sublist.cons | apply la1)))
             · intro w H
               refine i_loadRow hF h H rfl rfl (by repeat (first | exact mh1 | apply mt1 | apply ma1)) (by omega) (by decide) ?_
               intro a h
               exact ⟨rfl, h⟩
             clear h; intro a h
             apply dQ0 hF h 4 rfl rfl (by kernel_rfl) (by decide) NoP.np (fun _ => H.sub (by repeat (first | exact ln1 | exact ls1 | exact lr1 | apply lk1 | apply List.Sublist.cons | apply la1)))
             · intro w
               refine sM0 hF h rfl rfl (by decide) ?_
               intro a h
               exact ⟨rfl, h⟩
             clear h; intro a h
             apply dQ0 hF h 5 rfl rfl (by kernel_rfl) (by decide) NoP.np (fun _ => H.sub (by repeat (first | exact ln1 | exact ls1 | exact lr1 | apply lk1 | apply List.Sublist.cons | apply la1)))
             · intro w
               refine sM0 hF h rfl rfl (by decide) ?_
               intro a h
               exact ⟨rfl, h⟩
             clear h; intro a h
             apply dQ0 hF h 6 rfl rfl (by kernel_rfl) (by decide) NoP.np (fun _ => H.sub (by repeat (first | exact ln1 | exact ls1 | exact lr1 | apply lk1 | apply List.Sublist.cons | apply la1)))
             · intro w
               refine i_ar64 hF h rfl rfl rfl rfl (by omega) (by omega) (by decide) ?_
               intro a h
               exact ⟨rfl, h⟩
             clear h; intro a h
             apply dQ0 hF h 7 rfl rfl (by kernel_rfl) (by decide) NoP.np (fun _ => H.sub (by repeat (first | exact ln1 | exact ls1 | exact lr1 | apply lk1 | apply List.Sublist.cons | apply la1)))
             · intro w
               refine i_idxRow hF h rfl rfl rfl (by omega) (by omega) (by decide) ?_
               intro a h
               exact ⟨rfl, h⟩
             clear h; intro a h
             apply dP0 hF h 8 rfl rfl (by kernel_rfl) (by decide) NoP.np (by kernel_rfl) (H.sub (by repeat (first | exact ln1 | exact ls1 | exact lr1 | apply lk1 | apply List.Sublist.cons | apply la1)))
             · intro w H
               refine i_loadRow hF h H rfl rfl (by repeat (first | exact mh1 | apply mt1 | apply ma1)) (by omega) (by decide) ?_
               intro a h
               exact ⟨rfl, h⟩
             clear h; intro a h
             refine dE0 9 rfl (by kernel_rfl) ?_
             refine i_call hF h rfl (less_ret _ _ _) rfl (by decide) ?_
             clear h; rintro _ w ⟨q, rfl, hb⟩ a h; replace H := H.call hb; clear hb
             refine dN0 (H.sub (by repeat (first | exact ln1 | exact ls1 | exact lr1 | apply lk1 | apply List.Sublist.cons | apply la1))) ?_
             apply dQ0 hF h 10 rfl rfl (by kernel_rfl) (by decide) NoP.np (fun _ => H.sub (by repeat (first | exact ln1 | exact ls1 | exact lr1 | apply lk1 | apply List.Sublist.cons | apply la1)))
             · intro w
               refine i_not hF h rfl rfl (by decide) ?_
               intro a h; try simp only [Bool.not_true, Bool.not_false] at h
               exact ⟨rfl, h⟩
             clear h; intro a h
             first | refine d_endThen (by kernel_rfl) ?_ | refine d_endQ (by kernel_rfl) ?_
             cases q
             · repeat refine cS0 ?_
               refine c_condT h rfl ?_
               refine c_exit ?_
               with_reducible repeat (first | refine xa0 ?_ | refine xb0 ?_ | refine xc0 ?_ | refine xd0 ?_ | refine xe0 (by decide) ?_ | refine xf0 ?_ | refine xg0 ?_ | refine xh0 ?_ | refine xi0 ?_)
               exact ⟨l', hp, (h.sub (by repeat (first | exact trivial | refine ⟨rfl, ?_⟩))), H⟩
             · repeat refine cS0 ?_
               refine c_condF h rfl ?_
               first | refine cKt0 ?_ | refine cK0 ?_
               repeat refine cS0 ?_
               refine d_regionL [15, 17] (by kernel_rfl) H ?_
               clear H; intro w H
               apply dQ0 hF h 0 rfl rfl (by kernel_rfl) (by decide) NoP.np (fun _ => H.sub (by repeat (first | exact ln1 | exact ls1 | exact lr1 | apply lk1 | apply List.Sublist.cons | apply la1)))
               · intro w
                 refine sM0 hF h rfl rfl (by decide) ?_
                 intro a h
                 exact ⟨rfl, h⟩
               clear h; intro a h
               apply dQ0 hF h 1 rfl rfl (by kernel_rfl) (by decide) NoP.np (fun _ => H.sub (by repeat (first | exact ln1 | exact ls1 | exact lr1 | apply lk1 | apply List.Sublist.cons | apply la1)))
               · intro w
                 refine sM0 hF h rfl rfl (by decide) ?_
                 intro a h
                 exact ⟨rfl, h⟩
               clear h; intro a h
               apply dQ0 hF h 2 rfl rfl (by kernel_rfl) (by decide) NoP.np (fun _ => H.sub (by repeat (first | exact ln1 | exact ls1 | exact lr1 | apply lk1 | apply List.Sublist.cons | apply la1)))
               · intro w
                 refine sM0 hF h rfl rfl (by decide) ?_
                 intro a h
                 exact ⟨rfl, h⟩
               clear h; intro a h
               apply dQ0 hF h 3 rfl rfl (by kernel_rfl) (by decide) NoP.np (fun _ => H.sub (by repeat (first | exact ln1 | exact ls1 | exact lr1 | apply lk1 | apply List.Sublist.cons | apply la1)))
               · intro w
                 refine sM0 hF h rfl rfl (by decide) ?_
                 intro a h
                 exact ⟨rfl, h⟩
               clear h; intro a h
               apply dQ0 hF h 4 rfl rfl (by kernel_rfl) (by decide) NoP.np (fun _ => H.sub (by repeat (first | exact ln1 | exact ls1 | exact lr1 | apply lk1 | apply List.Sublist.cons | apply la1)))
               · intro w
                 refine i_ar64 hF h rfl rfl rfl rfl (by omega) (by omega) (by decide) ?_
                 intro a h
                 exact ⟨rfl, h⟩
               clear h; intro a h
               apply dQ0 hF h 5 rfl rfl (by kernel_rfl) (by decide) NoP.np (fun _ => H.sub (by repeat (first | exact ln1 | exact ls1 | exact lr1 | apply lk1 | apply List.Sublist.cons | apply la1)))
               · intro w
                 refine sM0 hF h rfl rfl (by decide) ?_
                 intro a h
                 exact ⟨rfl, h⟩
               clear h; intro a h
               apply dQ0 hF h 6 rfl rfl (by kernel_rfl) (by decide) NoP.np (fun _ => H.sub (by repeat (first | exact ln1 | exact ls1 | exact lr1 | apply lk1 | apply List.Sublist.cons | apply la1)))
               · intro w
                 refine sM0 hF h rfl rfl (by decide) ?_
                 intro a h
                 exact ⟨rfl, h⟩
               clear h; intro a h
               apply dQ0 hF h 7 rfl rfl (by kernel_rfl) (by decide) NoP.np (fun _ => H.sub (by repeat (first | exact ln1 | exact ls1 | exact lr1 | apply lk1 | apply List.Sublist.cons | apply la1)))
               · intro w
                 refine i_ar64 hF h rfl rfl rfl rfl (by omega) (by omega) (by decide) ?_
                 intro a h
                 exact ⟨rfl, h⟩
               clear h; intro a h
               apply dQ0 hF h 8 rfl rfl (by kernel_rfl) (by decide) NoP.np (fun _ => H.sub (by repeat (first | exact ln1 | exact ls1 | exact lr1 | apply lk1 | apply List.Sublist.cons | apply la1)))
               · intro w
                 refine i_idxRow hF h rfl rfl rfl (by omega) (by omega) (by decide) ?_
                 intro a h
                 exact ⟨rfl, h⟩
               clear h; intro a h
               apply dP0 hF h 9 rfl rfl (by kernel_rfl) (by decide) NoP.np (by kernel_rfl) (H.sub (by repeat (first | exact ln1 | exact ls1 | exact lr1 | apply lk1 | apply List.Sublist.cons | apply la1)))
               · intro w H
                 refine i_loadRow hF h H rfl rfl (by repeat (first | exact mh1 | apply mt1 | apply ma1)) (by omega) (by decide) ?_
                 intro a h
                 exact ⟨rfl, h⟩
               clear h; intro a h
               apply dQ0 hF h 10 rfl rfl (by kernel_rfl) (by decide) NoP.np (fun _ => H.sub (by repeat (first | exact ln1 | exact ls1 | exact lr1 | apply lk1 | apply List.Sublist.cons | apply la1)))
               · intro w
                 refine sM0 hF h rfl rfl (by decide) ?_
                 intro a h
                 exact ⟨rfl, h⟩
               clear h; intro a h
               apply dQ0 hF h 11 rfl rfl (by kernel_rfl) (by decide) NoP.np (fun _ => H.sub (by repeat (first | exact ln1 | exact ls1 | exact lr1 | apply lk1 | apply List.Sublist.cons | apply la1)))
               · intro w
                 refine sM0 hF h rfl rfl (by decide) ?_
                 intro a h
                 exact ⟨rfl, h⟩
               clear h; intro a h
               apply dQ0 hF h 12 rfl rfl (by kernel_rfl) (by decide) NoP.np (fun _ => H.sub (by repeat (first | exact ln1 | exact ls1 | exact lr1 | apply lk1 | apply List.Sublist.cons | apply la1)))
               · intro w
                 refine i_idxRow hF h rfl rfl rfl (by omega) (by omega) (by decide) ?_
                 intro a h
                 exact ⟨rfl, h⟩
               clear h; intro a h
               apply dP0 hF h 13 rfl rfl (by kernel_rfl) (by decide) NoP.np (by kernel_rfl) (H.sub (by repeat (first | exact ln1 | exact ls1 | exact lr1 | apply lk1 | apply List.Sublist.cons | apply la1)))
               · intro w H
                 refine i_loadRow hF h H rfl rfl (by repeat (first | exact mh1 | apply mt1 | apply ma1)) (by omega) (by decide) ?_
                 intro a h
                 exact ⟨rfl, h⟩
               clear h; intro a h
               apply dQ0 hF h 14 rfl rfl (by kernel_rfl) (by decide) NoP.np (fun _ => H.sub (by repeat (first | exact ln1 | exact ls1 | exact lr1 | apply lk1 | apply List.Sublist.cons | apply la1)))
               · intro w
                 refine i_idxRow hF h rfl rfl rfl (by omega) (by omega) (by decide) ?_
                 intro a h
                 exact ⟨rfl, h⟩
               clear h; intro a h
               refine dE0 15 rfl (by kernel_rfl) ?_
               refine i_storeRow hF h H rfl rfl rfl (by repeat (first | exact Upd.here | apply Upd.there | apply Upd.app)) (by (try simp only [List.length_set]); omega) ?_
               clear H; intro w H
               refine dNm0 (by kernel_rfl) ?_
               apply dQ0 hF h 16 rfl rfl (by kernel_rfl) (by decide) NoP.np (fun hh => absurd hh (by rw [show ph _ _ = true from by kernel_rfl]; decide))
               · intro w
                 refine i_idxRow hF h rfl rfl rfl (by omega) (by omega) (by decide) ?_
                 intro a h
                 exact ⟨rfl, h⟩
               clear h; intro a h
               refine dE0 17 rfl (by kernel_rfl) ?_
               refine i_storeRow hF h H rfl rfl rfl (by repeat (first | exact Upd.here | apply Upd.there | apply Upd.app)) (by (try simp only [List.length_set]); omega) ?_
               clear H; intro w H
               refine dNm0 (by kernel_rfl) ?_
               first | refine d_endThen (by kernel_rfl) ?_ | refine d_endQ (by kernel_rfl) ?_
               have hsw := swapP (l := l') (i := (j : Int).toNat) (j := ((j : Int) - 1).toNat) (by omega) (by omega)
               with_reducible repeat (first | refine xa0 ?_ | refine xb0 ?_ | refine xc0 ?_ | refine xd0 ?_ | refine xe0 (by decide) ?_ | refine xf0 ?_ | refine xg0 ?_ | refine xh0 ?_ | refine xi0 ?_)
               repeat refine cS0 ?_
               refine cR0 ?_
               refine sM0 hF h rfl rfl (by decide) ?_
               clear h; intro a h
               refine i_ar64 hF h rfl rfl rfl rfl (by omega) (by omega) (by decide) ?_
               clear h; intro a h
               refine sA0 hF h rfl rfl (by decide) ?_
               clear h; intro a h
               refine cE0 ?_
               refine ⟨j - 1, by omega, j - 1, _, rfl, by omega, hsw.trans hp, ?_, H⟩
               rw [show ((j - 1 : Nat) : Int) = (j : Int) - 1 by omega]
               exact (h.sub (by repeat (first | exact trivial | refine ⟨rfl, ?_⟩)))
           · repeat refine cS0 ?_
             refine cR0 ?_
             refine sM0 hF h rfl rfl (by decide) ?_
             clear h; intro a h
             (first | (refine iC0 hF h rfl rfl rfl (i_geq_t (by omega)) (by decide) ?_) | (refine iC0 hF h rfl rfl rfl (i_geq_f (by omega)) (by decide) ?_))
             clear h; intro a h
             first | refine cEt0 ?_ | refine cE0 ?_
             repeat refine cS0 ?_
             refine c_condF h rfl ?_
             refine c_exit ?_
             with_reducible repeat (first | refine xa0 ?_ | refine xb0 ?_ | refine xc0 ?_ | refine xd0 ?_ | refine xe0 (by decide) ?_ | refine xf0 ?_ | refine xg0 ?_ | refine xh0 ?_ | refine xi0 ?_)
             exact ⟨l', hp, (h.sub (by repeat (first | exact trivial | refine ⟨rfl, ?_⟩))), H⟩
         · repeat refine cS0 ?_
           refine cR0 ?_
           refine sM0 hF h rfl rfl (by decide) ?_
           clear h; intro a h
           refine sM0 hF h rfl rfl (by decide) ?_
           clear h; intro a h
           refine i_ar64 hF h rfl rfl rfl rfl (by omega) (by omega) (by decide) ?_
           clear h; intro a h
           (first | (refine iC0 hF h rfl rfl rfl (i_geq_t (by omega)) (by decide) ?_) | (refine iC0 hF h rfl rfl rfl (i_geq_f (by omega)) (by decide) ?_))
           clear h; intro a h
           first | refine cEt0 ?_ | refine cE0 ?_
           repeat refine cS0 ?_
           refine c_condF h rfl ?_
           refine cK0 ?_
           exact ⟨l1, hsw, (h.sub (by repeat (first | exact trivial | refine ⟨rfl, ?_⟩))), H⟩
       clear h H hsw
       rintro a w ⟨l1, hp1, h, H⟩
       refine c_joinQ (fun a' w' => ∃ l', l'.Perm l ∧ Fr 133 [] [(8, int (s : Nat)), (7, int (i2 : Nat)), (0, sl b n cap), (1, int p), (2, int r)] a' ∧ St n0 w0 ((b, rowB l' junk) :: X) w') ?_ ?_
       · by_cases h2p : i2 + 2 ≤ r
         · repeat refine cS0 ?_
           refine cR0 ?_
           refine sM0 hF h rfl rfl (by decide) ?_
           clear h; intro a h
           refine sM0 hF h rfl rfl (by decide) ?_
           clear h; intro a h
           refine i_ar64 hF h rfl rfl rfl rfl (by omega) (by omega) (by decide) ?_
           clear h; intro a h
           (first | (refine iC0 hF h rfl rfl rfl (i_geq_t (by omega)) (by decide) ?_) | (refine iC0 hF h rfl rfl rfl (i_geq_f (by omega)) (by decide) ?_))
           clear h; intro a h
           first | refine cEt0 ?_ | refine cE0 ?_
           repeat refine cS0 ?_
           refine c_condT h rfl ?_
           repeat refine cS0 ?_
           refine cR0 ?_
           refine sM0 hF h rfl rfl (by decide) ?_
           clear h; intro a h
           refine i_ar64 hF h rfl rfl rfl rfl (by omega) (by omega) (by decide) ?_
           clear h; intro a h
           refine sA0 hF h rfl rfl (by decide) ?_
           clear h; intro a h
           first | refine cEt0 ?_ | refine cE0 ?_
           refine c_block ?_
           refine c_loopN (fun k a' w' => ∃ j l', k = r - j ∧ i2 < j ∧ j ≤ r ∧ l'.Perm l ∧ Fr 133 [] [(10, int (j : Nat)), (8, int (s : Nat)), (7, int (i2 : Nat)), (0, sl b n cap), (1, int p), (2, int r)] a' ∧ St n0 w0 ((b, rowB l' junk) :: X) w') (r - (i2 + 1)) ⟨i2 + 1, l1, rfl, by omega, by omega, hp1, (h.sub (by repeat (first | exact trivial | refine ⟨rfl, ?_⟩))), H⟩ ?_
           clear h H hp1
           rintro k a w ⟨j, l', rfl, hj, hj2, hp, h, H⟩
           have hlen := hp.length_eq
           rw [hn] at hlen
           by_cases hj1 : j < r
           · repeat refine cS0 ?_
             refine cR0 ?_
             refine sM0 hF h rfl rfl (by decide) ?_
             clear h; intro a h
             refine sM0 hF h rfl rfl (by decide) ?_
             clear h; intro a h
             (first | (refine iC0 hF h rfl rfl rfl (i_lss_t (by omega)) (by decide) ?_) | (refine iC0 hF h rfl rfl rfl (i_lss_f (by omega)) (by decide) ?_))
             clear h; intro a h
             first | refine cEt0 ?_ | refine cE0 ?_
             repeat refine cS0 ?_
             refine c_condT h rfl ?_
             first | refine cKt0 ?_ | refine cK0 ?_
             repeat refine cS0 ?_
             refine c_block ?_
             repeat refine cS0 ?_
             refine d_regionL [] (by kernel_rfl) H ?_
             clear H; intro w H
             apply dQ0 hF h 0 rfl rfl (by kernel_rfl) (by decide) NoP.np (fun _ => H.sub (by repeat (first | exact ln1 | exact ls1 | exact lr1 | apply lk1 | apply List.Sublist.cons | apply la1)))
             · intro w
               refine sM0 hF h rfl rfl (by decide) ?_
               intro a h
               exact ⟨rfl, h⟩
             clear h; intro a h
             apply dQ0 hF h 1 rfl rfl (by kernel_rfl) (by decide) NoP.np (fun _ => H.sub (by repeat (first | exact ln1 | exact ls1 | exact lr1 | apply lk1 | apply List.Sublist.cons | apply la1)))
             · intro w
               refine sM0 hF h rfl rfl (by decide) ?_
               intro a h
               exact ⟨rfl, h⟩
             clear h; intro a h
             apply dQ0 hF h 2 rfl rfl (by kernel_rfl) (by decide) NoP.np (fun _ => H.sub (by repeat (first | exact ln1 | exact ls1 | exact lr1 | apply lk1 | apply List.Sublist.cons | apply la1)))
             · intro w
               refine i_idxRow hF h rfl rfl rfl (by omega) (by omega) (by decide) ?_
               intro a h
               exact ⟨rfl, h⟩
             clear h; intro a h
             apply dP0 hF h 3 rfl rfl (by kernel_rfl) (by decide) NoP.np (by kernel_rfl) (H.sub (by repeat (first | exact ln1 | exact ls1 | exact lr1 | apply lk1 | apply List.Sublist.cons | apply la1)))
             · intro w H
               refine i_loadRow hF h H rfl rfl (by repeat (first | exact mh1 | apply mt1 | apply ma1)) (by omega) (by decide) ?_
               intro a h
               exact ⟨rfl, h⟩
             clear h; intro a h
             apply dQ0 hF h 4 rfl rfl (by kernel_rfl) (by decide) NoP.np (fun _ => H.sub (by repeat (first | exact ln1 | exact ls1 | exact lr1 | apply lk1 | apply List.Sublist.cons | apply la1)))
             · intro w
               refine sM0 hF h rfl rfl (by decide) ?_
               intro a h
               exact ⟨rfl, h⟩
             clear h; intro a h
             apply dQ0 hF h 5 rfl rfl (by kernel_rfl) (by decide) NoP.np (fun _ => H.sub (by repeat (first | exact ln1 | exact ls1 | exact lr1 | apply lk1 | apply List.Sublist.cons | apply la1)))
             · intro w
               refine sM0 hF h rfl rfl (by decide) ?_
               intro a h
               exact ⟨rfl, h⟩
             clear h; intro a h
             apply dQ0 hF h 6 rfl rfl (by kernel_rfl) (by decide) NoP.np (fun _ => H.sub (by repeat (first | exact ln1 | exact ls1 | exact lr1 | apply lk1 | apply List.Sublist.cons | apply la1)))
             · intro w
               refine i_ar64 hF h rfl rfl rfl rfl (by omega) (by omega) (by decide) ?_
               intro a h
               exact ⟨rfl, h⟩
             clear h; intro a h
             apply dQ0 hF h 7 rfl rfl (by kernel_rfl) (by decide) NoP.np (fun _ => H.sub (by repeat (first | exact ln1 | exact ls1 | exact lr1 | apply lk1 | apply List.Sublist.cons | apply la1)))
             · intro w
               refine i_idxRow hF h rfl rfl rfl (by omega) (by omega) (by decide) ?_
               intro a h
               exact ⟨rfl, h⟩
             clear h; intro a h
             apply dP0 hF h 8 rfl rfl (by kernel_rfl) (by decide) NoP.np (by kernel_rfl) (H.sub (by repeat (first | exact ln1 | exact ls1 | exact lr1 | apply lk1 | apply List.Sublist.cons | apply la1)))
             · intro w H
               refine i_loadRow hF h H rfl rfl (by repeat (first | exact mh1 | apply mt1 | apply ma1)) (by omega) (by decide) ?_
               intro a h
               exact ⟨rfl, h⟩
             clear h; intro a h
             refine dE0 9 rfl (by kernel_rfl) ?_
             refine i_call hF h rfl (less_ret _ _ _) rfl (by decide) ?_
             clear h; rintro _ w ⟨q, rfl, hb⟩ a h; replace H := H.call hb; clear hb
             refine dN0 (H.sub (by repeat (first | exact ln1 | exact ls1 | exact lr1 | apply lk1 | apply List.Sublist.cons | apply la1))) ?_
             apply dQ0 hF h 10 rfl rfl (by kernel_rfl) (by decide) NoP.np (fun _ => H.sub (by repeat (first | exact ln1 | exact ls1 | exact lr1 | apply lk1 | apply List.Sublist.cons | apply la1)))
             · intro w
               refine i_not hF h rfl rfl (by decide) ?_
               intro a h; try simp only [Bool.not_true, Bool.not_false] at h
               exact ⟨rfl, h⟩
             clear h; intro a h
             first | refine d_endThen (by kernel_rfl) ?_ | refine d_endQ (by kernel_rfl) ?_
             cases q
             · repeat refine cS0 ?_
               refine c_condT h rfl ?_
               refine c_exit ?_
               with_reducible repeat (first | refine xa0 ?_ | refine xb0 ?_ | refine xc0 ?_ | refine xd0 ?_ | refine xe0 (by decide) ?_ | refine xf0 ?_ | refine xg0 ?_ | refine xh0 ?_ | refine xi0 ?_)
               exact ⟨l', hp, (h.sub (by repeat (first | exact trivial | refine ⟨rfl, ?_⟩))), H⟩
             · repeat refine cS0 ?_
               refine c_condF h rfl ?_
               first | refine cKt0 ?_ | refine cK0 ?_
               repeat refine cS0 ?_
               refine d_regionL [15, 17] (by kernel_rfl) H ?_
               clear H; intro w H
               apply dQ0 hF h 0 rfl rfl (by kernel_rfl) (by decide) NoP.np (fun _ => H.sub (by repeat (first | exact ln1 | exact ls1 | exact lr1 | apply lk1 | apply List.Sublist.cons | apply la1)))
               · intro w
                 refine sM0 hF h rfl rfl (by decide) ?_
                 intro a h
                 exact ⟨rfl, h⟩
               clear h; intro a h
               apply dQ0 hF h 1 rfl rfl (by kernel_rfl) (by decide) NoP.np (fun _ => H.sub (by repeat (first | exact ln1 | exact ls1 | exact lr1 | apply lk1 | apply List.Sublist.cons | apply la1)))
               · intro w
                 refine sM0 hF h rfl rfl (by decide) ?_
                 intro a h
                 exact ⟨rfl, h⟩
               clear h; intro a h
               apply dQ0 hF h 2 rfl rfl (by kernel_rfl) (by decide) NoP.np (fun _ => H.sub (by repeat (first | exact ln1 | exact ls1 | exact lr1 | apply lk1 | apply List.Sublist.cons | apply la1)))
               · intro w
                 refine sM0 hF h rfl rfl (by decide) ?_
                 intro a h
                 exact ⟨rfl, h⟩
               clear h; intro a h
               apply dQ0 hF h 3 rfl rfl (by kernel_rfl) (by decide) NoP.np (fun _ => H.sub (by repeat (first | exact ln1 | exact ls1 | exact lr1 | apply lk1 | apply List.Sublist.cons | apply la1)))
               · intro w
                 refine sM0 hF h rfl rfl (by decide) ?_
                 intro a h
                 exact ⟨rfl, h⟩
               clear h; intro a h
               apply dQ0 hF h 4 rfl rfl (by kernel_rfl) (by decide) NoP.np (fun _ => H.sub (by repeat (first | exact ln1 | exact ls1 | exact lr1 | apply lk1 | apply List.Sublist.cons | apply la1)))
               · intro w
                 refine i_ar64 hF h rfl rfl rfl rfl (by omega) (by omega) (by decide) ?_
                 intro a h
                 exact ⟨rfl, h⟩
               clear h; intro a h
               apply dQ0 hF h 5 rfl rfl (by kernel_rfl) (by decide) NoP.np (fun _ => H.sub (by repeat (first | exact ln1 | exact ls1 | exact lr1 | apply lk1 | apply List.Sublist.cons | apply la1)))
               · intro w
                 refine sM0 hF h rfl rfl (by decide) ?_
                 intro a h
                 exact ⟨rfl, h⟩
               clear h; intro a h
               apply dQ0 hF h 6 rfl rfl (by kernel_rfl) (by decide) NoP.np (fun _ => H.sub (by repeat (first | exact ln1 | exact ls1 | exact lr1 | apply lk1 | apply List.Sublist.cons | apply la1)))
               · intro w
                 refine sM0 hF h rfl rfl (by decide) ?_
                 intro a h
                 exact ⟨rfl, h⟩
               clear h; intro a h
               apply dQ0 hF h 7 rfl rfl (by kernel_rfl) (by decide) NoP.np (fun _ => H.sub (by repeat (first | exact ln1 | exact ls1 | exact lr1 | apply lk1 | apply List.Sublist.cons | apply la1)))
               · intro w
                 refine i_ar64 hF h rfl rfl rfl rfl (by omega) (by omega) (by decide) ?_
                 intro a h
                 exact ⟨rfl, h⟩
               clear h; intro a h
               apply dQ0 hF h 8 rfl rfl (by kernel_rfl) (by decide) NoP.np (fun _ => H.sub (by repeat (first | exact ln1 | exact ls1 | exact lr1 | apply lk1 | apply List.Sublist.cons | apply la1)))
               · intro w
                 refine i_idxRow hF h rfl rfl rfl (by omega) (by omega) (by decide) ?_
                 intro a h
                 exact ⟨rfl, h⟩
               clear h; intro a h
               apply dP0 hF h 9 rfl rfl (by kernel_rfl) (by decide) NoP.np (by kernel_rfl) (H.sub (by repeat (first | exact ln1 | exact ls1 | exact lr1 | apply lk1 | apply List.Sublist.cons | apply la1)))
               · intro w H
                 refine i_loadRow hF h H rfl rfl (by repeat (first | exact mh1 | apply mt1 | apply ma1)) (by omega) (by decide) ?_
                 intro a h
                 exact ⟨rfl, h⟩
               clear h; intro a h
               apply dQ0 hF h 10 rfl rfl (by kernel_rfl) (by decide) NoP.np (fun _ => H.sub (by repeat (first | exact ln1 | exact ls1 | exact lr1 | apply lk1 | apply List.Sublist.cons | apply la1)))
               · intro w
                 refine sM0 hF h rfl rfl (by decide) ?_
                 intro a h
                 exact ⟨rfl, h⟩
               clear h; intro a h
               apply dQ0 hF h 11 rfl rfl (by kernel_rfl) (by decide) NoP.np (fun _ => H.sub (by repeat (first | exact ln1 | exact ls1 | exact lr1 | apply lk1 | apply List.Sublist.cons | apply la1)))
               · intro w
                 refine sM0 hF h rfl rfl (by decide) ?_
                 intro a h
                 exact ⟨rfl, h⟩
               clear h; intro a h
               apply dQ0 hF h 12 rfl rfl (by kernel_rfl) (by decide) NoP.np (fun _ => H.sub (by repeat (first | exact ln1 | exact ls1 | exact lr1 | apply lk1 | apply List.Sublist.cons | apply la1)))
               · intro w
                 refine i_idxRow hF h rfl rfl rfl (by omega) (by omega) (by decide) ?_
                 intro a h
                 exact ⟨rfl, h⟩
               clear h; intro a h
               apply dP0 hF h 13 rfl rfl (by kernel_rfl) (by decide) NoP.np (by kernel_rfl) (H.sub (by repeat (first | exact ln1 | exact ls1 | exact lr1 | apply lk1 | apply List.Sublist.cons | apply la1)))
               · intro w H
                 refine i_loadRow hF h H rfl rfl (by repeat (first | exact mh1 | apply mt1 | apply ma1)) (by omega) (by decide) ?_
                 intro a h
                 exact ⟨rfl, h⟩
               clear h; intro a h
               apply dQ0 hF h 14 rfl rfl (by kernel_rfl) (by decide) NoP.np (fun _ => H.sub (by repeat (first | exact ln1 | exact ls1 | exact lr1 | apply lk1 | apply List.Sublist.cons | apply la1)))
               · intro w
                 refine i_idxRow hF h rfl rfl rfl (by omega) (by omega) (by decide) ?_
                 intro a h
                 exact ⟨rfl, h⟩
               clear h; intro a h
               refine dE0 15 rfl (by kernel_rfl) ?_
               refine i_storeRow hF h H rfl rfl rfl (by repeat (first | exact Upd.here | apply Upd.there | apply Upd.app)) (by (try simp only [List.length_set]); omega) ?_
               clear H; intro w H
               refine dNm0 (by kernel_rfl) ?_
               apply dQ0 hF h 16 rfl rfl (by kernel_rfl) (by decide) NoP.np (fun hh => absurd hh (by rw [show ph _ _ = true from by kernel_rfl]; decide))
               · intro w
                 refine i_idxRow hF h rfl rfl rfl (by omega) (by omega) (by decide) ?_
                 intro a h
                 exact ⟨rfl, h⟩
               clear h; intro a h
               refine dE0 17 rfl (by kernel_rfl) ?_
               refine i_storeRow hF h H rfl rfl rfl (by repeat (first | exact Upd.here | apply Upd.there | apply Upd.app)) (by (try simp only [List.length_set]); omega) ?_
               clear H; intro w H
               refine dNm0 (by kernel_rfl) ?_
               first | refine d_endThen (by kernel_rfl) ?_ | refine d_endQ (by kernel_rfl) ?_
               have hsw := swapP (l := l') (i := (j : Int).toNat) (j := ((j : Int) - 1).toNat) (by omega) (by omega)
               with_reducible repeat (first | refine xa0 ?_ | refine xb0 ?_ | refine xc0 ?_ | refine xd0 ?_ | refine xe0 (by decide) ?_ | refine xf0 ?_ | refine xg0 ?_ | refine xh0 ?_ | refine xi0 ?_)
               repeat refine cS0 ?_
               refine cR0 ?_
               refine sM0 hF h rfl rfl (by decide) ?_
               clear h; intro a h
               refine i_ar64 hF h rfl rfl rfl rfl (by omega) (by omega) (by decide) ?_
               clear h; intro a h
               refine sA0 hF h rfl rfl (by decide) ?_
               clear h; intro a h
               refine cE0 ?_
               exact ⟨r - (j + 1), by omega, j + 1, _, rfl, by omega, by omega, hsw.trans hp, (h.sub (by repeat (first | exact trivial | refine ⟨rfl, ?_⟩))), H⟩
           · repeat refine cS0 ?_
             refine cR0 ?_
             refine sM0 hF h rfl rfl (by decide) ?_
             clear h; intro a h
             refine sM0 hF h rfl rfl (by decide) ?_
             clear h; intro a h
             (first | (refine iC0 hF h rfl rfl rfl (i_lss_t (by omega)) (by decide) ?_) | (refine iC0 hF h rfl rfl rfl (i_lss_f (by omega)) (by decide) ?_))
             clear h; intro a h
             first | refine cEt0 ?_ | refine cE0 ?_
             repeat refine cS0 ?_
             refine c_condF h rfl ?_
             refine c_exit ?_
             with_reducible repeat (first | refine xa0 ?_ | refine xb0 ?_ | refine xc0 ?_ | refine xd0 ?_ | refine xe0 (by decide) ?_ | refine xf0 ?_ | refine xg0 ?_ | refine xh0 ?_ | refine xi0 ?_)
             exact ⟨l', hp, (h.sub (by repeat (first | exact trivial | refine ⟨rfl, ?_⟩))), H⟩
         · repeat refine cS0 ?_
           refine cR0 ?_
           refine sM0 hF h rfl rfl (by decide) ?_
           clear h; intro a h
           refine sM0 hF h rfl rfl (by decide) ?_
           clear h; intro a h
           refine i_ar64 hF h rfl rfl rfl rfl (by omega) (by omega) (by decide) ?_
           clear h; intro a h
           (first | (refine iC0 hF h rfl rfl rfl (i_geq_t (by omega)) (by decide) ?_) | (refine iC0 hF h rfl rfl rfl (i_geq_f (by omega)) (by decide) ?_))
           clear h; intro a h
           first | refine cEt0 ?_ | refine cE0 ?_
           repeat refine cS0 ?_
           refine c_condF h rfl ?_
           refine cK0 ?_
           exact ⟨l1, hp1, (h.sub (by repeat (first | exact trivial | refine ⟨rfl, ?_⟩))), H⟩
       clear h H hp1
       rintro a w ⟨l2, hp2, h, H⟩
       with_reducible repeat (first | refine xa0 ?_ | refine xb0 ?_ | refine xc0 ?_ | refine xd0 ?_ | refine xe0 (by decide) ?_ | refine xf0 ?_ | refine xg0 ?_ | refine xh0 ?_ | refine xi0 ?_)
       repeat refine cS0 ?_
       refine cR0 ?_
       refine sM0 hF h rfl rfl (by decide) ?_
       clear h; intro a h
       refine i_ar64 hF h rfl rfl rfl rfl (by omega) (by omega) (by decide) ?_
       clear h; intro a h
       refine sA0 hF h rfl rfl (by decide) ?_
       clear h; intro a h
       refine cE0 ?_
       exact ⟨5 - (s + 1), by omega, s + 1, i2, l2, rfl, by omega, by omega, by omega, hp2, (h.sub (by repeat (first | exact trivial | refine ⟨rfl, ?_⟩))), H⟩
 · repeat refine cS0 ?_
   refine cR0 ?_
   refine sM0 hF h rfl rfl (by decide) ?_
   clear h; intro a h
   (first | (refine iC0 hF h rfl rfl rfl (i_lss_t (by omega)) (by decide) ?_) | (refine iC0 hF h rfl rfl rfl (i_lss_f (by omega)) (by decide) ?_))
   clear h; intro a h
   first | refine cEt0 ?_ | refine cE0 ?_
   repeat refine cS0 ?_
   refine c_condF h rfl ?_
   refine c_exit ?_
   with_reducible repeat (first | refine xa0 ?_ | refine xb0 ?_ | refine xc0 ?_ | refine xd0 ?_ | refine xe0 (by decide) ?_ | refine xf0 ?_ | refine xg0 ?_ | refine xh0 ?_ | refine xi0 ?_)
   repeat refine cS0 ?_
   refine cR0 ?_
   refine sA0 hF h rfl rfl (by decide) ?_
   clear h; intro a h
   first | refine cEt0 ?_ | refine cE0 ?_
   refine c_ret ?_
   with_reducible repeat (first | refine xa0 ?_ | refine xb0 ?_ | refine xc0 ?_ | refine xd0 ?_ | refine xe0 (by decide) ?_ | refine xf0 ?_ | refine xg0 ?_ | refine xh0 ?_ | refine xi0 ?_)
   refine leave (fn := Tryz.f112) h Tryz.results112 (.tmp rfl (.nil)) ?_
   exact ⟨_, rfl, ⟨_, rfl⟩, l', hp, H⟩
end Go.Proofs.YtjlmpghcjgbfjaaGreatDoor.Cw
namespace Go.Proofs.YtjlmpghcjgbfjaaGreatDoor.Cw
open Go Go.RowKit Go.Proofs Ex Cd
set_option maxRecDepth 100000
def cI (k : Nat) : Obj := .cells [int k].toArray 3 (0, 0)
theorem order_ret {n0 : Nat} {w0 : World} {b n cap c k : Nat} {junk : List Value} {X : List (Nat × Obj)} {l : List UInt8} {w : World} (H : St n0 w0 ((c, cI k) :: (b, rowB l junk) :: X) w) (hlen : l.length = n) (_ : n ≤ 1000000) (hk : k ≤ 1000) (x y : Nat) (h1 : x < n) (h2 : y < n) :
 Rets Tryz.prog 132 [sl b n cap, int x, int y, ptr c 0] w fun v w' => ∃ x' y' k' : Nat, v = .tuple #[int x', int y'] ∧ (x' = x ∧ y' = y ∨ x' = y ∧ y' = x) ∧ k' ≤ k + 1 ∧ St n0 w0 ((c, cI k') :: (b, rowB l junk) :: X) w' := by
 refine enter Tryz.func132 rfl (Nat.le_of_ble_eq_true rfl) ?_
 intro a h; rw [Tryz.ntmps132] at h
 have hF := Fd.wide
 repeat refine cS0 ?_
 refine cR0 ?_
 refine sA0 hF h rfl rfl (by decide) ?_
 clear h; intro a h
 refine sA0 hF h rfl rfl (by decide) ?_
 clear h; intro a h
 first | refine cEt0 ?_ | refine cE0 ?_
 repeat refine cS0 ?_
 refine d_regionL [] (by kernel_rfl) H ?_
 clear H; intro w H
 apply dQ0 hF h 0 rfl rfl (by kernel_rfl) (by decide) NoP.np (fun _ => H.sub (by repeat (first | exact ln1 | exact ls1 | exact lr1 | apply lk1 | apply List.Sublist.cons | apply la1)))
 · intro w
   refine sM0 hF h rfl rfl (by decide) ?_
   intro a h
   exact ⟨rfl, h⟩
 clear h; intro a h
 apply dQ0 hF h 1 rfl rfl (by kernel_rfl) (by decide) NoP.np (fun _ => H.sub (by repeat (first | exact ln1 | exact ls1 | exact lr1 | apply lk1 | apply List.Sublist.cons | apply la1)))
 · intro w
   refine sM0 hF h rfl rfl (by decide) ?_
   intro a h
   exact ⟨rfl, h⟩
 clear h; intro a h
 apply dQ0 hF h 2 rfl rfl (by kernel_rfl) (by decide) NoP.np (fun _ => H.sub (by repeat (first | exact ln1 | exact ls1 | exact lr1 | apply lk1 | apply List.Sublist.cons | apply la1)))
 · intro w
   refine i_idxRow hF h rfl rfl rfl (by omega) (by omega) (by decide) ?_
   intro a h
   exact ⟨rfl, h⟩
 clear h; intro a h
 apply dP0 hF h 3 rfl rfl (by kernel_rfl) (by decide) NoP.np (by kernel_rfl) (H.sub (by repeat (first | exact ln1 | exact ls1 | exact lr1 | apply lk1 | apply List.Sublist.cons | apply la1)))
 · intro w H
   refine i_loadRow hF h H rfl rfl (by repeat (first | exact mh1 | apply mt1 | apply ma1)) (by omega) (by decide) ?_
   intro a h
   exact ⟨rfl, h⟩
 clear h; intro a h
 apply dQ0 hF h 4 rfl rfl (by kernel_rfl) (by decide) NoP.np (fun _ => H.sub (by repeat (first | exact ln1 | exact ls1 | exact lr1 | apply lk1 | apply List.Sublist.cons | apply la1)))
 · intro w
   refine sM0 hF h rfl rfl (by decide) ?_
   intro a h
   exact ⟨rfl, h⟩
 clear h; intro a h
 apply dQ0 hF h 5 rfl rfl (by kernel_rfl) (by decide) NoP.np (fun _ => H.sub (by repeat (first | exact ln1 | exact ls1 | exact lr1 | apply lk1 | apply List.Sublist.cons | apply la1)))
 · intro w
   refine sM0 hF h rfl rfl (by decide) ?_
   intro a h
   exact ⟨rfl, h⟩
 clear h; intro a h
 apply dQ0 hF h 6 rfl rfl (by kernel_rfl) (by decide) NoP.np (fun _ => H.sub (by repeat (first | exact ln1 | exact ls1 | exact lr1 | apply lk1 | apply List.Sublist.cons | apply la1)))
 · intro w
   refine i_idxRow hF h rfl rfl rfl (by omega) (by omega) (by decide) ?_
   intro a h
   exact ⟨rfl, h⟩
 clear h; intro a h
 apply dP0 hF h 7 rfl rfl (by kernel_rfl) (by decide) NoP.np (by kernel_rfl) (H.sub (by repeat (first | exact ln1 | exact ls1 | exact lr1 | apply lk1 | apply List.Sublist.cons | apply la1)))
 · intro w H
   refine i_loadRow hF h H rfl rfl (by repeat (first | exact mh1 | apply mt1 | apply ma1)) (by omega) (by decide) ?_
   intro a h
   exact ⟨rfl, h⟩
 clear h; intro a h
 refine dE0 8 rfl (by kernel_rfl) ?_
 refine i_call hF h rfl (less_ret _ _ _) rfl (by decide) ?_
 clear h; rintro _ w ⟨q, rfl, hb⟩ a h; replace H := H.call hb; clear hb
 refine dN0 (H.sub (by repeat (first | exact ln1 | exact ls1 | exact lr1 | apply lk1 | apply List.Sublist.cons | apply la1))) ?_
 first | refine d_endThen (by kernel_rfl) ?_ | refine d_endQ (by kernel_rfl) ?_
 cases q
 · repeat refine cS0 ?_
   refine c_condF h rfl ?_
   first | refine cKt0 ?_ | refine cK0 ?_
   repeat refine cS0 ?_
   refine cR0 ?_
   refine sM0 hF h rfl rfl (by decide) ?_
   clear h; intro a h
   refine sM0 hF h rfl rfl (by decide) ?_
   clear h; intro a h
   refine sA0 hF h rfl rfl (by decide) ?_
   clear h; intro a h
   refine sA0 hF h rfl rfl (by decide) ?_
   clear h; intro a h
   first | refine cEt0 ?_ | refine cE0 ?_
   refine c_ret ?_
   with_reducible repeat (first | refine xa0 ?_ | refine xb0 ?_ | refine xc0 ?_ | refine xd0 ?_ | refine xe0 (by decide) ?_ | refine xf0 ?_ | refine xg0 ?_ | refine xh0 ?_ | refine xi0 ?_)
   refine leave (fn := Tryz.f132) h Tryz.results132 (.tmp rfl (.tmp rfl (.nil))) ?_
   exact ⟨_, rfl, x, y, k, rfl, .inl ⟨rfl, rfl⟩, by omega, H⟩
 · repeat refine cS0 ?_
   refine c_condT h rfl ?_
   repeat refine cS0 ?_
   refine cR0 ?_
   refine sM0 hF h rfl rfl (by decide) ?_
   clear h; intro a h
   refine i_nilCheck hF h rfl rfl (by decide) ?_
   clear h; intro a h
   refine iL0 hF h H rfl rfl (by repeat (first | exact mh1 | apply mt1 | apply ma1)) (by exact rfl) (by decide) ?_
   clear h; intro a h
   refine i_ar64 hF h rfl rfl rfl rfl (by omega) (by omega) (by decide) ?_
   clear h; intro a h
   refine i_nilCheck hF h rfl rfl (by decide) ?_
   clear h; intro a h
   refine jS0 hF h H rfl rfl rfl rfl (by repeat (first | exact Upd.here | apply Upd.there | apply Upd.app)) (by repeat (first | exact SetAt.zero | apply SetAt.succ)) ?_
   clear H; intro w H
   first | refine cEt0 ?_ | refine cE0 ?_
   repeat refine cS0 ?_
   refine cR0 ?_
   refine sM0 hF h rfl rfl (by decide) ?_
   clear h; intro a h
   refine sM0 hF h rfl rfl (by decide) ?_
   clear h; intro a h
   refine sA0 hF h rfl rfl (by decide) ?_
   clear h; intro a h
   refine sA0 hF h rfl rfl (by decide) ?_
   clear h; intro a h
   first | refine cEt0 ?_ | refine cE0 ?_
   refine c_ret ?_
   with_reducible repeat (first | refine xa0 ?_ | refine xb0 ?_ | refine xc0 ?_ | refine xd0 ?_ | refine xe0 (by decide) ?_ | refine xf0 ?_ | refine xg0 ?_ | refine xh0 ?_ | refine xi0 ?_)
   refine leave (fn := Tryz.f132) h Tryz.results132 (.tmp rfl (.tmp rfl (.nil))) ?_
   exact ⟨_, rfl, y, x, k + 1, rfl, .inr ⟨rfl, rfl⟩, by omega, H⟩
theorem median_ret {n0 : Nat} {w0 : World} {b n cap c k : Nat} {junk : List Value} {X : List (Nat × Obj)} {l : List UInt8} {w : World} (H : St n0 w0 ((c, cI k) :: (b, rowB l junk) :: X) w) (hlen : l.length = n) (hn2 : n ≤ 1000000) (hk : k ≤ 900) (x y z : Nat) (h1 : x < n) (h2 : y < n) (h3 : z < n) :
 Rets Tryz.prog 128 [sl b n cap, int x, int y, int z, ptr c 0] w fun v w' => ∃ m k' : Nat, v = int m ∧ (m = x ∨ m = y ∨ m = z) ∧ k' ≤ k + 3 ∧ St n0 w0 ((c, cI k') :: (b, rowB l junk) :: X) w' := by
 refine enter Tryz.func128 rfl (Nat.le_of_ble_eq_true rfl) ?_
 intro a h; rw [Tryz.ntmps128] at h
 have hF := Fd.wide
 repeat refine cS0 ?_
 refine cR0 ?_
 refine sA0 hF h rfl rfl (by decide) ?_
 clear h; intro a h
 first | refine cEt0 ?_ | refine cE0 ?_
 repeat refine cS0 ?_
 refine cR0 ?_
 refine sM0 hF h rfl rfl (by decide) ?_
 clear h; intro a h
 refine sM0 hF h rfl rfl (by decide) ?_
 clear h; intro a h
 refine sM0 hF h rfl rfl (by decide) ?_
 clear h; intro a h
 refine sM0 hF h rfl rfl (by decide) ?_
 clear h; intro a h
 refine i_call hF h rfl (order_ret H hlen hn2 (by omega) _ _ (by omega) (by omega)) rfl (by decide) ?_
 clear h H; rintro _ w ⟨x', y', k', rfl, hxy, hk', H⟩ a h
 refine sM0 hF h rfl rfl (by decide) ?_
 clear h; intro a h
 refine iX0 hF h rfl rfl rfl (by decide) ?_
 clear h; intro a h
 refine iX0 hF h rfl rfl rfl (by decide) ?_
 clear h; intro a h
 refine sA0 hF h rfl rfl (by decide) ?_
 clear h; intro a h
 refine sA0 hF h rfl rfl (by decide) ?_
 clear h; intro a h
 first | refine cEt0 ?_ | refine cE0 ?_
 have e1 := hxy; have f1 := hk'; clear hxy hk'
 repeat refine cS0 ?_
 refine cR0 ?_
 refine sM0 hF h rfl rfl (by decide) ?_
 clear h; intro a h
 refine sM0 hF h rfl rfl (by decide) ?_
 clear h; intro a h
 refine sM0 hF h rfl rfl (by decide) ?_
 clear h; intro a h
 refine sM0 hF h rfl rfl (by decide) ?_
 clear h; intro a h
 refine i_call hF h rfl (order_ret H hlen hn2 (by omega) _ _ (by omega) (by omega)) rfl (by decide) ?_
 clear h H; rintro _ w ⟨x', y', k', rfl, hxy, hk', H⟩ a h
 refine sM0 hF h rfl rfl (by decide) ?_
 clear h; intro a h
 refine iX0 hF h rfl rfl rfl (by decide) ?_
 clear h; intro a h
 refine iX0 hF h rfl rfl rfl (by decide) ?_
 clear h; intro a h
 refine sA0 hF h rfl rfl (by decide) ?_
 clear h; intro a h
 refine sA0 hF h rfl rfl (by decide) ?_
 clear h; intro a h
 first | refine cEt0 ?_ | refine cE0 ?_
 have e2 := hxy; have f2 := hk'; clear hxy hk'
 repeat refine cS0 ?_
 refine cR0 ?_
 refine sM0 hF h rfl rfl (by decide) ?_
 clear h; intro a h
 refine sM0 hF h rfl rfl (by decide) ?_
 clear h; intro a h
 refine sM0 hF h rfl rfl (by decide) ?_
 clear h; intro a h
 refine sM0 hF h rfl rfl (by decide) ?_
 clear h; intro a h
 refine i_call hF h rfl (order_ret H hlen hn2 (by omega) _ _ (by omega) (by omega)) rfl (by decide) ?_
 clear h H; rintro _ w ⟨x', y', k', rfl, hxy, hk', H⟩ a h
 refine sM0 hF h rfl rfl (by decide) ?_
 clear h; intro a h
 refine iX0 hF h rfl rfl rfl (by decide) ?_
 clear h; intro a h
 refine iX0 hF h rfl rfl rfl (by decide) ?_
 clear h; intro a h
 refine sA0 hF h rfl rfl (by decide) ?_
 clear h; intro a h
 refine sA0 hF h rfl rfl (by decide) ?_
 clear h; intro a h
 first | refine cEt0 ?_ | refine cE0 ?_
 have e3 := hxy; have f3 := hk'; clear hxy hk'
 repeat refine cS0 ?_
 refine cR0 ?_
 refine sM0 hF h rfl rfl (by decide) ?_
 clear h; intro a h
 refine sA0 hF h rfl rfl (by decide) ?_
 clear h; intro a h
 first | refine cEt0 ?_ | refine cE0 ?_
 refine c_ret ?_
 with_reducible repeat (first | refine xa0 ?_ | refine xb0 ?_ | refine xc0 ?_ | refine xd0 ?_ | refine xe0 (by decide) ?_ | refine xf0 ?_ | refine xg0 ?_ | refine xh0 ?_ | refine xi0 ?_)
 refine leave (fn := Tryz.f128) h Tryz.results128 (.tmp rfl (.nil)) ?_
 exact ⟨_, rfl, _, _, rfl, by omega, by omega, H⟩
theorem adjacent_ret {n0 : Nat} {w0 : World} {b n cap c k : Nat} {junk : List Value} {X : List (Nat × Obj)} {l : List UInt8} {w : World} (H : St n0 w0 ((c, cI k) :: (b, rowB l junk) :: X) w) (hlen : l.length = n) (hn2 : n ≤ 1000000) (hk : k ≤ 900) (x : Nat) (h1 : 1 ≤ x) (h2 : x + 1 < n) :
 Rets Tryz.prog 127 [sl b n cap, int x, ptr c 0] w fun v w' => ∃ m k' : Nat, v = int m ∧ (x ≤ m + 1 ∧ m ≤ x + 1) ∧ k' ≤ k + 3 ∧ St n0 w0 ((c, cI k') :: (b, rowB l junk) :: X) w' := by
 refine enter Tryz.func127 rfl (Nat.le_of_ble_eq_true rfl) ?_
 intro a h; rw [Tryz.ntmps127] at h
 have hF := Fd.wide
 repeat refine cS0 ?_
 refine cR0 ?_
 refine sA0 hF h rfl rfl (by decide) ?_
 clear h; intro a h
 first | refine cEt0 ?_ | refine cE0 ?_
 repeat refine cS0 ?_
 refine cR0 ?_
 refine sM0 hF h rfl rfl (by decide) ?_
 clear h; intro a h
 refine sM0 hF h rfl rfl (by decide) ?_
 clear h; intro a h
 refine i_ar64 hF h rfl rfl rfl rfl (by omega) (by omega) (by decide) ?_
 clear h; intro a h
 refine sM0 hF h rfl rfl (by decide) ?_
 clear h; intro a h
 refine sM0 hF h rfl rfl (by decide) ?_
 clear h; intro a h
 refine i_ar64 hF h rfl rfl rfl rfl (by omega) (by omega) (by decide) ?_
 clear h; intro a h
 refine sM0 hF h rfl rfl (by decide) ?_
 clear h; intro a h
 rw [show ((x : Int) - 1) = ((x - 1 : Nat) : Int) by omega, show ((x : Int) + 1) = ((x + 1 : Nat) : Int) by omega] at h
 refine i_call hF h rfl (median_ret H hlen hn2 (by omega) _ _ _ (by omega) (by omega) (by omega)) rfl (by decide) ?_
 clear h H; rintro _ w ⟨m, k', rfl, hm, hk', H⟩ a h
 refine sA0 hF h rfl rfl (by decide) ?_
 clear h; intro a h
 first | refine cEt0 ?_ | refine cE0 ?_
 refine c_ret ?_
 with_reducible repeat (first | refine xa0 ?_ | refine xb0 ?_ | refine xc0 ?_ | refine xd0 ?_ | refine xe0 (by decide) ?_ | refine xf0 ?_ | refine xg0 ?_ | refine xh0 ?_ | refine xi0 ?_)
 refine leave (fn := Tryz.f127) h Tryz.results127 (.tmp rfl (.nil)) ?_
 exact ⟨_, rfl, _, _, rfl, by omega, by omega, H⟩
theorem pivot_ret {n0 : Nat} {w0 : World} {b n cap : Nat} {junk : List Value} {X : List (Nat × Obj)} {l : List UInt8} {w : World} (H : St n0 w0 ((b, rowB l junk) :: X) w) (hlen : l.length = n) (hn2 : n ≤ 1000000) (p r : Nat) (h1 : p + 12 < r) (h2 : r ≤ n) :
 Rets Tryz.prog 110 [sl b n cap, int p, int r] w fun v w' => ∃ m t : Nat, v = .tuple #[int m, int t] ∧ p ≤ m ∧ m < r ∧ t ≤ 2 ∧ St n0 w0 ((b, rowB l junk) :: X) w' := by
 refine enter Tryz.func110 rfl (Nat.le_of_ble_eq_true rfl) ?_
 intro a h; rw [Tryz.ntmps110] at h
 have hF := Fd.wide
 repeat refine cS0 ?_
 refine cR0 ?_
 refine sA0 hF h rfl rfl (by decide) ?_
 clear h; intro a h
 refine sA0 hF h rfl rfl (by decide) ?_
 clear h; intro a h
 first | refine cEt0 ?_ | refine cE0 ?_
 repeat refine cS0 ?_
 refine cR0 ?_
 refine sM0 hF h rfl rfl (by decide) ?_
 clear h; intro a h
 refine sM0 hF h rfl rfl (by decide) ?_
 clear h; intro a h
 refine i_ar64 hF h rfl rfl rfl rfl (by omega) (by omega) (by decide) ?_
 clear h; intro a h
 refine sA0 hF h rfl rfl (by decide) ?_
 clear h; intro a h
 first | refine cEt0 ?_ | refine cE0 ?_
 rw [show ((r : Int) - (p : Int)) = ((r - p : Nat) : Int) by omega] at h
 obtain ⟨d, hd⟩ : ∃ d, d = r - p := ⟨_, rfl⟩
 rw [← hd] at h
 repeat refine cS0 ?_
 refine cR0 ?_
 refine i_alloc hF h H rfl (by decide) ?_
 clear h H; intro a w b9 _ h H
 first | refine cEt0 ?_ | refine cE0 ?_
 repeat refine cS0 ?_
 refine cR0 ?_
 refine sM0 hF h rfl rfl (by decide) ?_
 clear h; intro a h
 refine sM0 hF h rfl rfl (by decide) ?_
 clear h; intro a h
 refine i_quo hF h rfl rfl rfl (by omega) (by omega) (by simp only [IntKind.max, IntKind.signed, IntKind.bits, if_true]; omega) (by decide) ?_
 clear h; intro a h
 refine i_ar64 hF h rfl rfl rfl rfl (by omega) (by omega) (by decide) ?_
 clear h; intro a h
 refine i_ar64 hF h rfl rfl rfl rfl (by omega) (by omega) (by decide) ?_
 clear h; intro a h
 refine sA0 hF h rfl rfl (by decide) ?_
 clear h; intro a h
 first | refine cEt0 ?_ | refine cE0 ?_
 repeat refine cS0 ?_
 refine cR0 ?_
 refine sM0 hF h rfl rfl (by decide) ?_
 clear h; intro a h
 refine sM0 hF h rfl rfl (by decide) ?_
 clear h; intro a h
 refine i_quo hF h rfl rfl rfl (by omega) (by omega) (by simp only [IntKind.max, IntKind.signed, IntKind.bits, if_true]; omega) (by decide) ?_
 clear h; intro a h
 refine i_ar64 hF h rfl rfl rfl rfl (by omega) (by omega) (by decide) ?_
 clear h; intro a h
 refine i_ar64 hF h rfl rfl rfl rfl (by omega) (by omega) (by decide) ?_
 clear h; intro a h
 refine sA0 hF h rfl rfl (by decide) ?_
 clear h; intro a h
 first | refine cEt0 ?_ | refine cE0 ?_
 repeat refine cS0 ?_
 refine cR0 ?_
 refine sM0 hF h rfl rfl (by decide) ?_
 clear h; intro a h
 refine sM0 hF h rfl rfl (by decide) ?_
 clear h; intro a h
 refine i_quo hF h rfl rfl rfl (by omega) (by omega) (by simp only [IntKind.max, IntKind.signed, IntKind.bits, if_true]; omega) (by decide) ?_
 clear h; intro a h
 refine i_ar64 hF h rfl rfl rfl rfl (by omega) (by omega) (by decide) ?_
 clear h; intro a h
 refine i_ar64 hF h rfl rfl rfl rfl (by omega) (by omega) (by decide) ?_
 clear h; intro a h
 refine sA0 hF h rfl rfl (by decide) ?_
 clear h; intro a h
 first | refine cEt0 ?_ | refine cE0 ?_
 rw [show ((p : Int) + (d : Int) / 4 * 1) = ((p + d / 4 * 1 : Nat) : Int) by omega, show ((p : Int) + (d : Int) / 4 * 2) = ((p + d / 4 * 2 : Nat) : Int) by omega, show ((p : Int) + (d : Int) / 4 * 3) = ((p + d / 4 * 3 : Nat) : Int) by omega] at h
 repeat refine cS0 ?_
 refine cR0 ?_
 refine sM0 hF h rfl rfl (by decide) ?_
 clear h; intro a h
 (first | (refine iC0 hF h rfl rfl rfl (i_geq_t (by omega)) (by decide) ?_) | (refine iC0 hF h rfl rfl rfl (i_geq_f (by omega)) (by decide) ?_))
 clear h; intro a h
 first | refine cEt0 ?_ | refine cE0 ?_
 repeat refine cS0 ?_
 refine c_condT h rfl ?_
 have H : St n0 w0 ((b9, cI 0) :: (b, rowB l junk) :: X) w := H
 refine c_join (fun a' w' => ∃ y k : Nat, p ≤ y ∧ y < r ∧ k ≤ 20 ∧ Fr 57 [] [(11, int y), (9, ptr b9 0), (0, sl b n cap)] a' ∧ St n0 w0 ((b9, cI k) :: (b, rowB l junk) :: X) w') ?_ ?_
 · refine cS0 ?_
   refine c_join (fun a' w' => ∃ x y z k : Nat, p ≤ x ∧ x < r ∧ p ≤ y ∧ y < r ∧ p ≤ z ∧ z < r ∧ k ≤ 9 ∧ Fr 57 [] [(10, int x), (11, int y), (12, int z), (9, ptr b9 0), (0, sl b n cap)] a' ∧ St n0 w0 ((b9, cI k) :: (b, rowB l junk) :: X) w') ?_ ?_
   · by_cases h50 : 50 ≤ d
     · repeat refine cS0 ?_
       refine cR0 ?_
       refine sM0 hF h rfl rfl (by decide) ?_
       clear h; intro a h
       (first | (refine iC0 hF h rfl rfl rfl (i_geq_t (by omega)) (by decide) ?_) | (refine iC0 hF h rfl rfl rfl (i_geq_f (by omega)) (by decide) ?_))
       clear h; intro a h
       first | refine cEt0 ?_ | refine cE0 ?_
       repeat refine cS0 ?_
       refine c_condT h rfl ?_
       repeat refine cS0 ?_
       refine cR0 ?_
       refine sM0 hF h rfl rfl (by decide) ?_
       clear h; intro a h
       refine sM0 hF h rfl rfl (by decide) ?_
       clear h; intro a h
       refine i_call hF h rfl (adjacent_ret H hlen hn2 (by omega) _ (by omega) (by omega)) rfl (by decide) ?_
       clear h H; rintro _ w ⟨m, k', rfl, hm, hk', H⟩ a h
       refine sA0 hF h rfl rfl (by decide) ?_
       clear h; intro a h
       first | refine cEt0 ?_ | refine cE0 ?_
       have e1 := hm; have f1 := hk'; clear hm hk'
       repeat refine cS0 ?_
       refine cR0 ?_
       refine sM0 hF h rfl rfl (by decide) ?_
       clear h; intro a h
       refine sM0 hF h rfl rfl (by decide) ?_
       clear h; intro a h
       refine i_call hF h rfl (adjacent_ret H hlen hn2 (by omega) _ (by omega) (by omega)) rfl (by decide) ?_
       clear h H; rintro _ w ⟨m, k', rfl, hm, hk', H⟩ a h
       refine sA0 hF h rfl rfl (by decide) ?_
       clear h; intro a h
       first | refine cEt0 ?_ | refine cE0 ?_
       have e2 := hm; have f2 := hk'; clear hm hk'
       repeat refine cS0 ?_
       refine cR0 ?_
       refine sM0 hF h rfl rfl (by decide) ?_
       clear h; intro a h
       refine sM0 hF h rfl rfl (by decide) ?_
       clear h; intro a h
       refine i_call hF h rfl (adjacent_ret H hlen hn2 (by omega) _ (by omega) (by omega)) rfl (by decide) ?_
       clear h H; rintro _ w ⟨m, k', rfl, hm, hk', H⟩ a h
       refine sA0 hF h rfl rfl (by decide) ?_
       clear h; intro a h
       refine cE0 ?_
       refine ⟨_, _, _, _, ?_, ?_, ?_, ?_, ?_, ?_, ?_, (h.sub (by repeat (first | exact trivial | refine ⟨rfl, ?_⟩))), H⟩ <;> omega
     · repeat refine cS0 ?_
       refine cR0 ?_
       refine sM0 hF h rfl rfl (by decide) ?_
       clear h; intro a h
       (first | (refine iC0 hF h rfl rfl rfl (i_geq_t (by omega)) (by decide) ?_) | (refine iC0 hF h rfl rfl rfl (i_geq_f (by omega)) (by decide) ?_))
       clear h; intro a h
       first | refine cEt0 ?_ | refine cE0 ?_
       repeat refine cS0 ?_
       refine c_condF h rfl ?_
       refine cK0 ?_
       refine ⟨_, _, _, _, ?_, ?_, ?_, ?_, ?_, ?_, ?_, (h.sub (by repeat (first | exact trivial | refine ⟨rfl, ?_⟩))), H⟩ <;> omega
   clear h H
   rintro a w ⟨x, y, z, k, g1, g2, g3, g4, g5, g6, g7, h, H⟩
   repeat refine cS0 ?_
   refine cR0 ?_
   refine sM0 hF h rfl rfl (by decide) ?_
   clear h; intro a h
   refine sM0 hF h rfl rfl (by decide) ?_
   clear h; intro a h
   refine sM0 hF h rfl rfl (by decide) ?_
   clear h; intro a h
   refine sM0 hF h rfl rfl (by decide) ?_
   clear h; intro a h
   refine i_call hF h rfl (median_ret H hlen hn2 (by omega) _ _ _ (by omega) (by omega) (by omega)) rfl (by decide) ?_
   clear h H; rintro _ w ⟨m, k', rfl, hm, hk', H⟩ a h
   refine sA0 hF h rfl rfl (by decide) ?_
   clear h; intro a h
   refine cE0 ?_
   refine ⟨_, _, ?_, ?_, ?_, (h.sub (by repeat (first | exact trivial | refine ⟨rfl, ?_⟩))), H⟩ <;> omega
 clear h H
 rintro a w ⟨y, k, g1, g2, g3, h, H⟩
 repeat refine cS0 ?_
 refine cR0 ?_
 refine iL0 hF h H rfl rfl (by repeat (first | exact mh1 | apply mt1 | apply ma1)) (by exact rfl) (by decide) ?_
 clear h; intro a h
 first | refine cEt0 ?_ | refine cE0 ?_
 repeat refine cS0 ?_
 refine c_block ?_
 by_cases e0 : k = 0
 · repeat refine cS0 ?_
   refine cR0 ?_
   (first | (refine iC0 hF h rfl rfl rfl (i_eql_t (by omega)) (by decide) ?_) | (refine iC0 hF h rfl rfl rfl (i_eql_f (by omega)) (by decide) ?_))
   clear h; intro a h
   refine sA0 hF h rfl rfl (by decide) ?_
   clear h; intro a h
   first | refine cEt0 ?_ | refine cE0 ?_
   repeat refine cS0 ?_
   refine c_condT h rfl ?_
   repeat refine cS0 ?_
   refine cR0 ?_
   refine sM0 hF h rfl rfl (by decide) ?_
   clear h; intro a h
   refine sA0 hF h rfl rfl (by decide) ?_
   clear h; intro a h
   refine sA0 hF h rfl rfl (by decide) ?_
   clear h; intro a h
   first | refine cEt0 ?_ | refine cE0 ?_
   refine c_ret ?_
   with_reducible repeat (first | refine xa0 ?_ | refine xb0 ?_ | refine xc0 ?_ | refine xd0 ?_ | refine xe0 (by decide) ?_ | refine xf0 ?_ | refine xg0 ?_ | refine xh0 ?_ | refine xi0 ?_)
   refine leave (fn := Tryz.f110) h Tryz.results110 (.tmp rfl (.tmp rfl (.nil))) ?_
   exact ⟨_, rfl, y, 1, rfl, g1, g2, by omega, (H.sub (by repeat (first | exact ln1 | exact ls1 | exact lr1 | apply lk1 | apply List.Sublist.cons | apply la1)))⟩
 · repeat refine cS0 ?_
   refine cR0 ?_
   (first | (refine iC0 hF h rfl rfl rfl (i_eql_t (by omega)) (by decide) ?_) | (refine iC0 hF h rfl rfl rfl (i_eql_f (by omega)) (by decide) ?_))
   clear h; intro a h
   refine sA0 hF h rfl rfl (by decide) ?_
   clear h; intro a h
   first | refine cEt0 ?_ | refine cE0 ?_
   repeat refine cS0 ?_
   refine c_condF h rfl ?_
   by_cases e12 : k = 12
   · repeat refine cS0 ?_
     refine cR0 ?_
     (first | (refine iC0 hF h rfl rfl rfl (i_eql_t (by omega)) (by decide) ?_) | (refine iC0 hF h rfl rfl rfl (i_eql_f (by omega)) (by decide) ?_))
     clear h; intro a h
     refine sA0 hF h rfl rfl (by decide) ?_
     clear h; intro a h
     first | refine cEt0 ?_ | refine cE0 ?_
     repeat refine cS0 ?_
     refine c_condT h rfl ?_
     repeat refine cS0 ?_
     refine cR0 ?_
     refine sM0 hF h rfl rfl (by decide) ?_
     clear h; intro a h
     refine sA0 hF h rfl rfl (by decide) ?_
     clear h; intro a h
     refine sA0 hF h rfl rfl (by decide) ?_
     clear h; intro a h
     first | refine cEt0 ?_ | refine cE0 ?_
     refine c_ret ?_
     with_reducible repeat (first | refine xa0 ?_ | refine xb0 ?_ | refine xc0 ?_ | refine xd0 ?_ | refine xe0 (by decide) ?_ | refine xf0 ?_ | refine xg0 ?_ | refine xh0 ?_ | refine xi0 ?_)
     refine leave (fn := Tryz.f110) h Tryz.results110 (.tmp rfl (.tmp rfl (.nil))) ?_
     exact ⟨_, rfl, y, 2, rfl, g1, g2, by omega, (H.sub (by repeat (first | exact ln1 | exact ls1 | exact lr1 | apply lk1 | apply List.Sublist.cons | apply la1)))⟩
   · repeat refine cS0 ?_
     refine cR0 ?_
     (first | (refine iC0 hF h rfl rfl rfl (i_eql_t (by omega)) (by decide) ?_) | (refine iC0 hF h rfl rfl rfl (i_eql_f (by omega)) (by decide) ?_))
     clear h; intro a h
     refine sA0 hF h rfl rfl (by decide) ?_
     clear h; intro a h
     first | refine cEt0 ?_ | refine cE0 ?_
     repeat refine cS0 ?_
     refine c_condF h rfl ?_
     repeat refine cS0 ?_
     refine cR0 ?_
     refine sM0 hF h rfl rfl (by decide) ?_
     clear h; intro a h
     refine sA0 hF h rfl rfl (by decide) ?_
     clear h; intro a h
     refine sA0 hF h rfl rfl (by decide) ?_
     clear h; intro a h
     first | refine cEt0 ?_ | refine cE0 ?_
     refine c_ret ?_
     with_reducible repeat (first | refine xa0 ?_ | refine xb0 ?_ | refine xc0 ?_ | refine xd0 ?_ | refine xe0 (by decide) ?_ | refine xf0 ?_ | refine xg0 ?_ | refine xh0 ?_ | refine xi0 ?_)
     refine leave (fn := Tryz.f110) h Tryz.results110 (.tmp rfl (.tmp rfl (.nil))) ?_
     exact ⟨_, rfl, y, 0, rfl, g1, g2, by omega, (H.sub (by repeat (first | exact ln1 | exact ls1 | exact lr1 | apply lk1 | apply List.Sublist.cons | apply la1)))⟩
end Go.Proofs.YtjlmpghcjgbfjaaGreatDoor.Cw
namespace Go.Proofs.YtjlmpghcjgbfjaaGreatDoor.Cw
open Go Go.RowKit Go.Proofs Ex Cd
set_option maxRecDepth 100000
theorem pow_bitLen : ∀ (x : Nat), 1 ≤ x → x < 2 ^ 64 → 2 ^ Lib.bitLen x ≤ 2 * x := by
 intro x
 induction x using Nat.strongRecOn with
 | _ x ih =>
  intro h1 h2
  rw [Lib.bitLen_half x (by omega) h2, Nat.add_comm, Nat.pow_succ]
  by_cases e : x / 2 = 0
  · rw [e, show Lib.bitLen 0 = 0 from rfl]; omega
  · have := ih (x / 2) (by omega) (by omega) (by omega)
    omega
theorem blen_ret (z : Int) (h0 : 1 ≤ z) (h1 : z ≤ 1000000) (w : World) : Rets Tryz.prog 96 [.int .u64 z] w fun v w' => v = int (Lib.bitLen z.toNat) ∧ Below w.heap.size w w' := by
 refine Calls.mono (Tryz.bits_Len z w (by omega) (by omega)) ?_
 rintro e w' ⟨rfl, rfl⟩
 exact ⟨_, rfl, rfl, Below.refl _ _⟩
theorem pow2_ret (d : Nat) (h0 : 1 ≤ d) (h1 : d ≤ 1000000) (w : World) : Rets Tryz.prog 125 [int d] w fun v w' => (∃ m : Nat, v = .int .u64 m ∧ 1 ≤ m ∧ m ≤ 2 * d) ∧ Below w.heap.size w w' := by
 refine enter Tryz.func125 rfl (Nat.le_of_ble_eq_true rfl) ?_
 intro a h; rw [Tryz.ntmps125] at h
 have hF := Fd.wide; have H := St.begin w
 repeat refine cS0 ?_
 refine cR0 ?_
 refine sA0 hF h rfl rfl (by decide) ?_
 clear h; intro a h
 first | refine cEt0 ?_ | refine cE0 ?_
 repeat refine cS0 ?_
 refine cR0 ?_
 refine sM0 hF h rfl rfl (by decide) ?_
 clear h; intro a h
 refine i_conv hF h rfl rfl (wrapTo _ _ (by simp only [IntKind.min, IntKind.signed, IntKind.bits, Bool.false_eq_true, if_false]; omega) (by simp only [IntKind.max, IntKind.signed, IntKind.bits, Bool.false_eq_true, if_false]; omega)) (by decide) ?_
 clear h; intro a h
 refine i_call hF h rfl (blen_ret _ (by omega) (by omega) _) rfl (by decide) ?_
 clear h; rintro _ w ⟨rfl, hb⟩ a h; replace H := H.call hb; clear hb
 refine i_sh hF h rfl rfl rfl (by omega) rfl (by decide) ?_
 clear h; intro a h
 refine sA0 hF h rfl rfl (by decide) ?_
 clear h; intro a h
 first | refine cEt0 ?_ | refine cE0 ?_
 refine c_ret ?_
 with_reducible repeat (first | refine xa0 ?_ | refine xb0 ?_ | refine xc0 ?_ | refine xd0 ?_ | refine xe0 (by decide) ?_ | refine xf0 ?_ | refine xg0 ?_ | refine xh0 ?_ | refine xi0 ?_)
 refine leave (fn := Tryz.f125) h Tryz.results125 (.tmp rfl (.nil)) ?_
 have hb : Lib.bitLen d ≤ 20 := Lib.bitLen_le d 20 (by omega) (by omega)
 have e1 : min ((Lib.bitLen (d : Int).toNat : Nat) : Int).toNat IntKind.u64.bits = Lib.bitLen d := by
  simp only [IntKind.bits, Int.toNat_natCast]; omega
 have e2 : (2 : Nat) ^ Lib.bitLen d ≤ 2 ^ 20 := Nat.pow_le_pow_right (by omega) hb
 have e3 : 1 ≤ (2 : Nat) ^ Lib.bitLen d := Nat.one_le_two_pow
 have e4 := pow_bitLen d h0 (by omega)
 have e5 : ((2 : Int) ^ Lib.bitLen d) = ((2 ^ Lib.bitLen d : Nat) : Int) := by simp
 generalize (2 : Nat) ^ Lib.bitLen d = m at e2 e3 e4 e5
 have e6 : IntKind.u64.wrap (m : Int) = m := wrap_id .u64 _ (by simp only [IntKind.min, IntKind.signed, IntKind.bits, Bool.false_eq_true, if_false]; omega) (by simp only [IntKind.max, IntKind.signed, IntKind.bits, Bool.false_eq_true, if_false]; omega)
 refine ⟨_, rfl, ⟨m, ?_, e3, e4⟩, H.done⟩
 simp only [tupleOf, e1, Int.one_mul, e5, e6]
def cU (z : Int) : Obj := .cells [.int .u64 z].toArray 164 (0, 0)
theorem next_ret {n0 : Nat} {w0 : World} {c : Nat} {z : Int} {X : List (Nat × Obj)} {w : World} (H : St n0 w0 ((c, cU z) :: X) w) :
 Rets Tryz.prog 126 [ptr c 0] w fun v w' => ∃ z' : Int, v = .int .u64 z' ∧ St n0 w0 ((c, cU z') :: X) w' := by
 refine enter Tryz.func126 rfl (Nat.le_of_ble_eq_true rfl) ?_
 intro a h; rw [Tryz.ntmps126] at h
 have hF := Fd.wide
 repeat refine cS0 ?_
 refine cR0 ?_
 refine sA0 hF h rfl rfl (by decide) ?_
 clear h; intro a h
 first | refine cEt0 ?_ | refine cE0 ?_
 repeat refine cS0 ?_
 refine d_regionL [9] (by kernel_rfl) H ?_
 clear H; intro w H
 apply dQ0 hF h 0 rfl rfl (by kernel_rfl) (by decide) NoP.np (fun _ => H.sub (by repeat (first | exact ln1 | exact ls1 | exact lr1 | apply lk1 | apply List.Sublist.cons | apply la1)))
 · intro w
   refine sM0 hF h rfl rfl (by decide) ?_
   intro a h
   exact ⟨rfl, h⟩
 clear h; intro a h
 apply dQ0 hF h 1 rfl rfl (by kernel_rfl) (by decide) NoP.np (fun _ => H.sub (by repeat (first | exact ln1 | exact ls1 | exact lr1 | apply lk1 | apply List.Sublist.cons | apply la1)))
 · intro w
   refine i_nilCheck hF h rfl rfl (by decide) ?_
   intro a h
   exact ⟨rfl, h⟩
 clear h; intro a h
 apply dP0 hF h 2 rfl rfl (by kernel_rfl) (by decide) NoP.np (by kernel_rfl) (H.sub (by repeat (first | exact ln1 | exact ls1 | exact lr1 | apply lk1 | apply List.Sublist.cons | apply la1)))
 · intro w H
   refine iL0 hF h H rfl rfl (by repeat (first | exact mh1 | apply mt1 | apply ma1)) (by exact rfl) (by decide) ?_
   intro a h
   exact ⟨rfl, h⟩
 clear h; intro a h
 apply dQ0 hF h 3 rfl rfl (by kernel_rfl) (by decide) NoP.np (fun _ => H.sub (by repeat (first | exact ln1 | exact ls1 | exact lr1 | apply lk1 | apply List.Sublist.cons | apply la1)))
 · intro w
   refine sM0 hF h rfl rfl (by decide) ?_
   intro a h
   exact ⟨rfl, h⟩
 clear h; intro a h
 apply dQ0 hF h 4 rfl rfl (by kernel_rfl) (by decide) NoP.np (fun _ => H.sub (by repeat (first | exact ln1 | exact ls1 | exact lr1 | apply lk1 | apply List.Sublist.cons | apply la1)))
 · intro w
   refine i_nilCheck hF h rfl rfl (by decide) ?_
   intro a h
   exact ⟨rfl, h⟩
 clear h; intro a h
 apply dP0 hF h 5 rfl rfl (by kernel_rfl) (by decide) NoP.np (by kernel_rfl) (H.sub (by repeat (first | exact ln1 | exact ls1 | exact lr1 | apply lk1 | apply List.Sublist.cons | apply la1)))
 · intro w H
   refine iL0 hF h H rfl rfl (by repeat (first | exact mh1 | apply mt1 | apply ma1)) (by exact rfl) (by decide) ?_
   intro a h
   exact ⟨rfl, h⟩
 clear h; intro a h
 apply dQ0 hF h 6 rfl rfl (by kernel_rfl) (by decide) NoP.np (fun _ => H.sub (by repeat (first | exact ln1 | exact ls1 | exact lr1 | apply lk1 | apply List.Sublist.cons | apply la1)))
 · intro w
   refine i_sh hF h rfl rfl rfl (by omega) rfl (by decide) ?_
   intro a h
   exact ⟨rfl, h⟩
 clear h; intro a h
 apply dQ0 hF h 7 rfl rfl (by kernel_rfl) (by decide) NoP.np (fun _ => H.sub (by repeat (first | exact ln1 | exact ls1 | exact lr1 | apply lk1 | apply List.Sublist.cons | apply la1)))
 · intro w
   refine i_bit hF h rfl rfl rfl rfl (by decide) ?_
   intro a h
   exact ⟨rfl, h⟩
 clear h; intro a h
 apply dQ0 hF h 8 rfl rfl (by kernel_rfl) (by decide) NoP.np (fun _ => H.sub (by repeat (first | exact ln1 | exact ls1 | exact lr1 | apply lk1 | apply List.Sublist.cons | apply la1)))
 · intro w
   refine i_nilCheck hF h rfl rfl (by decide) ?_
   intro a h
   exact ⟨rfl, h⟩
 clear h; intro a h
 refine dE0 9 rfl (by kernel_rfl) ?_
 refine jS0 hF h H rfl rfl rfl rfl (by repeat (first | exact Upd.here | apply Upd.there | apply Upd.app)) (by repeat (first | exact SetAt.zero | apply SetAt.succ)) ?_
 clear H; intro w H
 refine dNm0 (by kernel_rfl) ?_
 first | refine d_endThen (by kernel_rfl) ?_ | refine d_endQ (by kernel_rfl) ?_
 repeat refine cS0 ?_
 refine d_regionL [9] (by kernel_rfl) H ?_
 clear H; intro w H
 apply dQ0 hF h 0 rfl rfl (by kernel_rfl) (by decide) NoP.np (fun _ => H.sub (by repeat (first | exact ln1 | exact ls1 | exact lr1 | apply lk1 | apply List.Sublist.cons | apply la1)))
 · intro w
   refine sM0 hF h rfl rfl (by decide) ?_
   intro a h
   exact ⟨rfl, h⟩
 clear h; intro a h
 apply dQ0 hF h 1 rfl rfl (by kernel_rfl) (by decide) NoP.np (fun _ => H.sub (by repeat (first | exact ln1 | exact ls1 | exact lr1 | apply lk1 | apply List.Sublist.cons | apply la1)))
 · intro w
   refine i_nilCheck hF h rfl rfl (by decide) ?_
   intro a h
   exact ⟨rfl, h⟩
 clear h; intro a h
 apply dP0 hF h 2 rfl rfl (by kernel_rfl) (by decide) NoP.np (by kernel_rfl) (H.sub (by repeat (first | exact ln1 | exact ls1 | exact lr1 | apply lk1 | apply List.Sublist.cons | apply la1)))
 · intro w H
   refine iL0 hF h H rfl rfl (by repeat (first | exact mh1 | apply mt1 | apply ma1)) (by exact rfl) (by decide) ?_
   intro a h
   exact ⟨rfl, h⟩
 clear h; intro a h
 apply dQ0 hF h 3 rfl rfl (by kernel_rfl) (by decide) NoP.np (fun _ => H.sub (by repeat (first | exact ln1 | exact ls1 | exact lr1 | apply lk1 | apply List.Sublist.cons | apply la1)))
 · intro w
   refine sM0 hF h rfl rfl (by decide) ?_
   intro a h
   exact ⟨rfl, h⟩
 clear h; intro a h
 apply dQ0 hF h 4 rfl rfl (by kernel_rfl) (by decide) NoP.np (fun _ => H.sub (by repeat (first | exact ln1 | exact ls1 | exact lr1 | apply lk1 | apply List.Sublist.cons | apply la1)))
 · intro w
   refine i_nilCheck hF h rfl rfl (by decide) ?_
   intro a h
   exact ⟨rfl, h⟩
 clear h; intro a h
 apply dP0 hF h 5 rfl rfl (by kernel_rfl) (by decide) NoP.np (by kernel_rfl) (H.sub (by repeat (first | exact ln1 | exact ls1 | exact lr1 | apply lk1 | apply List.Sublist.cons | apply la1)))
 · intro w H
   refine iL0 hF h H rfl rfl (by repeat (first | exact mh1 | apply mt1 | apply ma1)) (by exact rfl) (by decide) ?_
   intro a h
   exact ⟨rfl, h⟩
 clear h; intro a h
 apply dQ0 hF h 6 rfl rfl (by kernel_rfl) (by decide) NoP.np (fun _ => H.sub (by repeat (first | exact ln1 | exact ls1 | exact lr1 | apply lk1 | apply List.Sublist.cons | apply la1)))
 · intro w
   refine i_sh hF h rfl rfl rfl (by omega) rfl (by decide) ?_
   intro a h
   exact ⟨rfl, h⟩
 clear h; intro a h
 apply dQ0 hF h 7 rfl rfl (by kernel_rfl) (by decide) NoP.np (fun _ => H.sub (by repeat (first | exact ln1 | exact ls1 | exact lr1 | apply lk1 | apply List.Sublist.cons | apply la1)))
 · intro w
   refine i_bit hF h rfl rfl rfl rfl (by decide) ?_
   intro a h
   exact ⟨rfl, h⟩
 clear h; intro a h
 apply dQ0 hF h 8 rfl rfl (by kernel_rfl) (by decide) NoP.np (fun _ => H.sub (by repeat (first | exact ln1 | exact ls1 | exact lr1 | apply lk1 | apply List.Sublist.cons | apply la1)))
 · intro w
   refine i_nilCheck hF h rfl rfl (by decide) ?_
   intro a h
   exact ⟨rfl, h⟩
 clear h; intro a h
 refine dE0 9 rfl (by kernel_rfl) ?_
 refine jS0 hF h H rfl rfl rfl rfl (by repeat (first | exact Upd.here | apply Upd.there | apply Upd.app)) (by repeat (first | exact SetAt.zero | apply SetAt.succ)) ?_
 clear H; intro w H
 refine dNm0 (by kernel_rfl) ?_
 first | refine d_endThen (by kernel_rfl) ?_ | refine d_endQ (by kernel_rfl) ?_
 repeat refine cS0 ?_
 refine d_regionL [9] (by kernel_rfl) H ?_
 clear H; intro w H
 apply dQ0 hF h 0 rfl rfl (by kernel_rfl) (by decide) NoP.np (fun _ => H.sub (by repeat (first | exact ln1 | exact ls1 | exact lr1 | apply lk1 | apply List.Sublist.cons | apply la1)))
 · intro w
   refine sM0 hF h rfl rfl (by decide) ?_
   intro a h
   exact ⟨rfl, h⟩
 clear h; intro a h
 apply dQ0 hF h 1 rfl rfl (by kernel_rfl) (by decide) NoP.np (fun _ => H.sub (by repeat (first | exact ln1 | exact ls1 | exact lr1 | apply lk1 | apply List.Sublist.cons | apply la1)))
 · intro w
   refine i_nilCheck hF h rfl rfl (by decide) ?_
   intro a h
   exact ⟨rfl, h⟩
 clear h; intro a h
 apply dP0 hF h 2 rfl rfl (by kernel_rfl) (by decide) NoP.np (by kernel_rfl) (H.sub (by repeat (first | exact ln1 | exact ls1 | exact lr1 | apply lk1 | apply List.Sublist.cons | apply la1)))
 · intro w H
   refine iL0 hF h H rfl rfl (by repeat (first | exact mh1 | apply mt1 | apply ma1)) (by exact rfl) (by decide) ?_
   intro a h
   exact ⟨rfl, h⟩
 clear h; intro a h
 apply dQ0 hF h 3 rfl rfl (by kernel_rfl) (by decide) NoP.np (fun _ => H.sub (by repeat (first | exact ln1 | exact ls1 | exact lr1 | apply lk1 | apply List.Sublist.cons | apply la1)))
 · intro w
   refine sM0 hF h rfl rfl (by decide) ?_
   intro a h
   exact ⟨rfl, h⟩
 clear h; intro a h
 apply dQ0 hF h 4 rfl rfl (by kernel_rfl) (by decide) NoP.np (fun _ => H.sub (by repeat (first | exact ln1 | exact ls1 | exact lr1 | apply lk1 | apply List.Sublist.cons | apply la1)))
 · intro w
   refine i_nilCheck hF h rfl rfl (by decide) ?_
   intro a h
   exact ⟨rfl, h⟩
 clear h; intro a h
 apply dP0 hF h 5 rfl rfl (by kernel_rfl) (by decide) NoP.np (by kernel_rfl) (H.sub (by repeat (first | exact ln1 | exact ls1 | exact lr1 | apply lk1 | apply List.Sublist.cons | apply la1)))
 · intro w H
   refine iL0 hF h H rfl rfl (by repeat (first | exact mh1 | apply mt1 | apply ma1)) (by exact rfl) (by decide) ?_
   intro a h
   exact ⟨rfl, h⟩
 clear h; intro a h
 apply dQ0 hF h 6 rfl rfl (by kernel_rfl) (by decide) NoP.np (fun _ => H.sub (by repeat (first | exact ln1 | exact ls1 | exact lr1 | apply lk1 | apply List.Sublist.cons | apply la1)))
 · intro w
   refine i_sh hF h rfl rfl rfl (by omega) rfl (by decide) ?_
   intro a h
   exact ⟨rfl, h⟩
 clear h; intro a h
 apply dQ0 hF h 7 rfl rfl (by kernel_rfl) (by decide) NoP.np (fun _ => H.sub (by repeat (first | exact ln1 | exact ls1 | exact lr1 | apply lk1 | apply List.Sublist.cons | apply la1)))
 · intro w
   refine i_bit hF h rfl rfl rfl rfl (by decide) ?_
   intro a h
   exact ⟨rfl, h⟩
 clear h; intro a h
 apply dQ0 hF h 8 rfl rfl (by kernel_rfl) (by decide) NoP.np (fun _ => H.sub (by repeat (first | exact ln1 | exact ls1 | exact lr1 | apply lk1 | apply List.Sublist.cons | apply la1)))
 · intro w
   refine i_nilCheck hF h rfl rfl (by decide) ?_
   intro a h
   exact ⟨rfl, h⟩
 clear h; intro a h
 refine dE0 9 rfl (by kernel_rfl) ?_
 refine jS0 hF h H rfl rfl rfl rfl (by repeat (first | exact Upd.here | apply Upd.there | apply Upd.app)) (by repeat (first | exact SetAt.zero | apply SetAt.succ)) ?_
 clear H; intro w H
 refine dNm0 (by kernel_rfl) ?_
 first | refine d_endThen (by kernel_rfl) ?_ | refine d_endQ (by kernel_rfl) ?_
 repeat refine cS0 ?_
 refine cR0 ?_
 refine sM0 hF h rfl rfl (by decide) ?_
 clear h; intro a h
 refine i_nilCheck hF h rfl rfl (by decide) ?_
 clear h; intro a h
 refine iL0 hF h H rfl rfl (by repeat (first | exact mh1 | apply mt1 | apply ma1)) (by exact rfl) (by decide) ?_
 clear h; intro a h
 refine sA0 hF h rfl rfl (by decide) ?_
 clear h; intro a h
 first | refine cEt0 ?_ | refine cE0 ?_
 refine c_ret ?_
 with_reducible repeat (first | refine xa0 ?_ | refine xb0 ?_ | refine xc0 ?_ | refine xd0 ?_ | refine xe0 (by decide) ?_ | refine xf0 ?_ | refine xg0 ?_ | refine xh0 ?_ | refine xi0 ?_)
 refine leave (fn := Tryz.f126) h Tryz.results126 (.tmp rfl (.nil)) ?_
 exact ⟨_, rfl, _, rfl, H⟩
end Go.Proofs.YtjlmpghcjgbfjaaGreatDoor.Cw
namespace Go.Proofs.YtjlmpghcjgbfjaaGreatDoor.Cw
open Go Go.RowKit Go.Proofs Ex Cd
set_option maxRecDepth 100000
theorem break_ret {n0 : Nat} {w0 : World} {b n cap : Nat} {junk : List Value} {X : List (Nat × Obj)} {l : List UInt8} {w : World} (H : St n0 w0 ((b, rowB l junk) :: X) w) (hn : l.length = n) (hn2 : n ≤ 1000000) (p r : Nat) (h1 : p ≤ r) (h2 : r ≤ n) :
 Rets Tryz.prog 109 [sl b n cap, int p, int r] w fun _ w' => Mixed n0 w0 b junk X l w' := by
 refine enter Tryz.func109 rfl (Nat.le_of_ble_eq_true rfl) ?_
 intro a h; rw [Tryz.ntmps109] at h
 have hF := Fd.wide
 repeat refine cS0 ?_
 refine cR0 ?_
 refine sM0 hF h rfl rfl (by decide) ?_
 clear h; intro a h
 refine sM0 hF h rfl rfl (by decide) ?_
 clear h; intro a h
 refine i_ar64 hF h rfl rfl rfl rfl (by omega) (by omega) (by decide) ?_
 clear h; intro a h
 refine sA0 hF h rfl rfl (by decide) ?_
 clear h; intro a h
 first | refine cEt0 ?_ | refine cE0 ?_
 rw [show ((r : Int) - (p : Int)) = ((r - p : Nat) : Int) by omega] at h
 obtain ⟨d, hd⟩ : ∃ d, d = r - p := ⟨_, rfl⟩
 rw [← hd] at h
 by_cases h8 : 8 ≤ d
 · repeat refine cS0 ?_
   refine cR0 ?_
   refine sM0 hF h rfl rfl (by decide) ?_
   clear h; intro a h
   (first | (refine iC0 hF h rfl rfl rfl (i_geq_t (by omega)) (by decide) ?_) | (refine iC0 hF h rfl rfl rfl (i_geq_f (by omega)) (by decide) ?_))
   clear h; intro a h
   first | refine cEt0 ?_ | refine cE0 ?_
   repeat refine cS0 ?_
   refine c_condT h rfl ?_
   repeat refine cS0 ?_
   refine cR0 ?_
   refine sM0 hF h rfl rfl (by decide) ?_
   clear h; intro a h
   refine i_conv hF h rfl rfl (wrapTo _ _ (by simp only [IntKind.min, IntKind.signed, IntKind.bits, Bool.false_eq_true, if_false]; omega) (by simp only [IntKind.max, IntKind.signed, IntKind.bits, Bool.false_eq_true, if_false]; omega)) (by decide) ?_
   clear h; intro a h
   refine i_alloc hF h H rfl (by decide) ?_
   clear h H; intro a w b7 _ h H
   refine jS0 hF h H rfl rfl rfl rfl (by repeat (first | exact Upd.here | apply Upd.there | apply Upd.app)) (by repeat (first | exact SetAt.zero | apply SetAt.succ)) ?_
   clear H; intro w H
   first | refine cEt0 ?_ | refine cE0 ?_
   repeat refine cS0 ?_
   refine cR0 ?_
   refine sM0 hF h rfl rfl (by decide) ?_
   clear h; intro a h
   refine i_call hF h rfl (pow2_ret d (by omega) (by omega) _) rfl (by decide) ?_
   clear h; rintro _ w ⟨⟨m, rfl, hm1, hm2⟩, hb⟩ a h; replace H := H.call hb; clear hb
   refine sA0 hF h rfl rfl (by decide) ?_
   clear h; intro a h
   first | refine cEt0 ?_ | refine cE0 ?_
   repeat refine cS0 ?_
   refine cR0 ?_
   refine sM0 hF h rfl rfl (by decide) ?_
   clear h; intro a h
   refine sM0 hF h rfl rfl (by decide) ?_
   clear h; intro a h
   refine i_quo hF h rfl rfl rfl (by omega) (by omega) (by simp only [IntKind.max, IntKind.signed, IntKind.bits, if_true]; omega) (by decide) ?_
   clear h; intro a h
   refine i_ar64 hF h rfl rfl rfl rfl (by omega) (by omega) (by decide) ?_
   clear h; intro a h
   refine i_ar64 hF h rfl rfl rfl rfl (by omega) (by omega) (by decide) ?_
   clear h; intro a h
   refine i_ar64 hF h rfl rfl rfl rfl (by omega) (by omega) (by decide) ?_
   clear h; intro a h
   refine sA0 hF h rfl rfl (by decide) ?_
   clear h; intro a h
   first | refine cEt0 ?_ | refine cE0 ?_
   rw [show ((p : Int) + (d : Int) / 4 * 2 - 1) = ((p + d / 4 * 2 - 1 : Nat) : Int) by omega] at h
   repeat refine cS0 ?_
   refine c_block ?_
   refine c_loopN (fun k a' w' => ∃ i l' z, k = p + d / 4 * 2 + 2 - i ∧ p ≤ i ∧ i ≤ p + d / 4 * 2 + 2 ∧ l'.Perm l ∧ Fr 65 [] [(9, int (i : Nat)), (8, .int .u64 (m : Nat)), (7, ptr b7 0), (6, int (d : Nat)), (0, sl b n cap), (1, int p)] a' ∧ St n0 w0 ((b7, cU z) :: (b, rowB l' junk) :: X) w') 3 ⟨p + d / 4 * 2 - 1, l, _, by omega, by omega, by omega, .refl _, (h.sub (by repeat (first | exact trivial | refine ⟨rfl, ?_⟩))), H⟩ ?_
   clear h H
   rintro k a w ⟨i, l', z, rfl, hi1, hi2, hp, h, H⟩
   have hlen := hp.length_eq
   rw [hn] at hlen
   by_cases hi : i ≤ p + d / 4 * 2 + 1
   · repeat refine cS0 ?_
     refine cR0 ?_
     refine sM0 hF h rfl rfl (by decide) ?_
     clear h; intro a h
     refine sM0 hF h rfl rfl (by decide) ?_
     clear h; intro a h
     refine sM0 hF h rfl rfl (by decide) ?_
     clear h; intro a h
     refine i_quo hF h rfl rfl rfl (by omega) (by omega) (by simp only [IntKind.max, IntKind.signed, IntKind.bits, if_true]; omega) (by decide) ?_
     clear h; intro a h
     refine i_ar64 hF h rfl rfl rfl rfl (by omega) (by omega) (by decide) ?_
     clear h; intro a h
     refine i_ar64 hF h rfl rfl rfl rfl (by omega) (by omega) (by decide) ?_
     clear h; intro a h
     refine i_ar64 hF h rfl rfl rfl rfl (by omega) (by omega) (by decide) ?_
     clear h; intro a h
     (first | (refine iC0 hF h rfl rfl rfl (i_leq_t (by omega)) (by decide) ?_) | (refine iC0 hF h rfl rfl rfl (i_leq_f (by omega)) (by decide) ?_))
     clear h; intro a h
     first | refine cEt0 ?_ | refine cE0 ?_
     repeat refine cS0 ?_
     refine c_condT h rfl ?_
     first | refine cKt0 ?_ | refine cK0 ?_
     repeat refine cS0 ?_
     refine c_block ?_
     repeat refine cS0 ?_
     refine cR0 ?_
     refine i_call hF h rfl (next_ret H) rfl (by decide) ?_
     clear h H; rintro _ w ⟨z', rfl, H⟩ a h
     refine sM0 hF h rfl rfl (by decide) ?_
     clear h; intro a h
     refine i_arU64 hF h rfl rfl rfl rfl (by omega) (by omega) (by decide) ?_
     clear h; intro a h
     refine i_andU hF h rfl rfl rfl (by omega) (by omega) (by decide) ?_
     clear h; intro z a hz1 hz2 h
     refine i_conv hF h rfl rfl (wrapTo _ _ (by simp only [IntKind.min, IntKind.signed, IntKind.bits, if_true]; omega) (by simp only [IntKind.max, IntKind.signed, IntKind.bits, if_true]; omega)) (by decide) ?_
     clear h; intro a h
     refine sA0 hF h rfl rfl (by decide) ?_
     clear h; intro a h
     first | refine cEt0 ?_ | refine cE0 ?_
     refine cS0 ?_
     refine c_join (fun a' w' => ∃ o : Int, 0 ≤ o ∧ o < d ∧ Fr 65 [] [(10, int o), (9, int (i : Nat)), (8, .int .u64 (m : Nat)), (7, ptr b7 0), (6, int (d : Nat)), (0, sl b n cap), (1, int p)] a' ∧ St n0 w0 ((b7, cU z') :: (b, rowB l' junk) :: X) w') ?_ ?_
     · by_cases hzd : z ≥ d
       · repeat refine cS0 ?_
         refine cR0 ?_
         refine sM0 hF h rfl rfl (by decide) ?_
         clear h; intro a h
         refine sM0 hF h rfl rfl (by decide) ?_
         clear h; intro a h
         (first | (refine iC0 hF h rfl rfl rfl (i_geq_t (by omega)) (by decide) ?_) | (refine iC0 hF h rfl rfl rfl (i_geq_f (by omega)) (by decide) ?_))
         clear h; intro a h
         first | refine cEt0 ?_ | refine cE0 ?_
         repeat refine cS0 ?_
         refine c_condT h rfl ?_
         repeat refine cS0 ?_
         refine cR0 ?_
         refine sM0 hF h rfl rfl (by decide) ?_
         clear h; intro a h
         refine sM0 hF h rfl rfl (by decide) ?_
         clear h; intro a h
         refine i_ar64 hF h rfl rfl rfl rfl (by omega) (by omega) (by decide) ?_
         clear h; intro a h
         refine sA0 hF h rfl rfl (by decide) ?_
         clear h; intro a h
         refine cE0 ?_
         exact ⟨z - d, by omega, by omega, (h.sub (by repeat (first | exact trivial | refine ⟨rfl, ?_⟩))), H⟩
       · repeat refine cS0 ?_
         refine cR0 ?_
         refine sM0 hF h rfl rfl (by decide) ?_
         clear h; intro a h
         refine sM0 hF h rfl rfl (by decide) ?_
         clear h; intro a h
         (first | (refine iC0 hF h rfl rfl rfl (i_geq_t (by omega)) (by decide) ?_) | (refine iC0 hF h rfl rfl rfl (i_geq_f (by omega)) (by decide) ?_))
         clear h; intro a h
         first | refine cEt0 ?_ | refine cE0 ?_
         repeat refine cS0 ?_
         refine c_condF h rfl ?_
         refine cK0 ?_
         exact ⟨z, by omega, by omega, (h.sub (by repeat (first | exact trivial | refine ⟨rfl, ?_⟩))), H⟩
     clear h H
     rintro a w ⟨o, ho1, ho2, h, H⟩
     repeat refine cS0 ?_
     refine d_regionL [17, 19] (by kernel_rfl) H ?_
     clear H; intro w H
     apply dQ0 hF h 0 rfl rfl (by kernel_rfl) (by decide) NoP.np (fun _ => H.sub (by repeat (first | exact ln1 | exact ls1 | exact lr1 | apply lk1 | apply List.Sublist.cons | apply la1)))
     · intro w
       refine sM0 hF h rfl rfl (by decide) ?_
       intro a h
       exact ⟨rfl, h⟩
     clear h; intro a h
     apply dQ0 hF h 1 rfl rfl (by kernel_rfl) (by decide) NoP.np (fun _ => H.sub (by repeat (first | exact ln1 | exact ls1 | exact lr1 | apply lk1 | apply List.Sublist.cons | apply la1)))
     · intro w
       refine sM0 hF h rfl rfl (by decide) ?_
       intro a h
       exact ⟨rfl, h⟩
     clear h; intro a h
     apply dQ0 hF h 2 rfl rfl (by kernel_rfl) (by decide) NoP.np (fun _ => H.sub (by repeat (first | exact ln1 | exact ls1 | exact lr1 | apply lk1 | apply List.Sublist.cons | apply la1)))
     · intro w
       refine sM0 hF h rfl rfl (by decide) ?_
       intro a h
       exact ⟨rfl, h⟩
     clear h; intro a h
     apply dQ0 hF h 3 rfl rfl (by kernel_rfl) (by decide) NoP.np (fun _ => H.sub (by repeat (first | exact ln1 | exact ls1 | exact lr1 | apply lk1 | apply List.Sublist.cons | apply la1)))
     · intro w
       refine sM0 hF h rfl rfl (by decide) ?_
       intro a h
       exact ⟨rfl, h⟩
     clear h; intro a h
     apply dQ0 hF h 4 rfl rfl (by kernel_rfl) (by decide) NoP.np (fun _ => H.sub (by repeat (first | exact ln1 | exact ls1 | exact lr1 | apply lk1 | apply List.Sublist.cons | apply la1)))
     · intro w
       refine sM0 hF h rfl rfl (by decide) ?_
       intro a h
       exact ⟨rfl, h⟩
     clear h; intro a h
     apply dQ0 hF h 5 rfl rfl (by kernel_rfl) (by decide) NoP.np (fun _ => H.sub (by repeat (first | exact ln1 | exact ls1 | exact lr1 | apply lk1 | apply List.Sublist.cons | apply la1)))
     · intro w
       refine i_ar64 hF h rfl rfl rfl rfl (by omega) (by omega) (by decide) ?_
       intro a h
       exact ⟨rfl, h⟩
     clear h; intro a h
     apply dQ0 hF h 6 rfl rfl (by kernel_rfl) (by decide) NoP.np (fun _ => H.sub (by repeat (first | exact ln1 | exact ls1 | exact lr1 | apply lk1 | apply List.Sublist.cons | apply la1)))
     · intro w
       refine sM0 hF h rfl rfl (by decide) ?_
       intro a h
       exact ⟨rfl, h⟩
     clear h; intro a h
     apply dQ0 hF h 7 rfl rfl (by kernel_rfl) (by decide) NoP.np (fun _ => H.sub (by repeat (first | exact ln1 | exact ls1 | exact lr1 | apply lk1 | apply List.Sublist.cons | apply la1)))
     · intro w
       refine sM0 hF h rfl rfl (by decide) ?_
       intro a h
       exact ⟨rfl, h⟩
     clear h; intro a h
     apply dQ0 hF h 8 rfl rfl (by kernel_rfl) (by decide) NoP.np (fun _ => H.sub (by repeat (first | exact ln1 | exact ls1 | exact lr1 | apply lk1 | apply List.Sublist.cons | apply la1)))
     · intro w
       refine sM0 hF h rfl rfl (by decide) ?_
       intro a h
       exact ⟨rfl, h⟩
     clear h; intro a h
     apply dQ0 hF h 9 rfl rfl (by kernel_rfl) (by decide) NoP.np (fun _ => H.sub (by repeat (first | exact ln1 | exact ls1 | exact lr1 | apply lk1 | apply List.Sublist.cons | apply la1)))
     · intro w
       refine i_ar64 hF h rfl rfl rfl rfl (by omega) (by omega) (by decide) ?_
       intro a h
       exact ⟨rfl, h⟩
     clear h; intro a h
     apply dQ0 hF h 10 rfl rfl (by kernel_rfl) (by decide) NoP.np (fun _ => H.sub (by repeat (first | exact ln1 | exact ls1 | exact lr1 | apply lk1 | apply List.Sublist.cons | apply la1)))
     · intro w
       refine i_idxRow hF h rfl rfl rfl (by omega) (by omega) (by decide) ?_
       intro a h
       exact ⟨rfl, h⟩
     clear h; intro a h
     apply dP0 hF h 11 rfl rfl (by kernel_rfl) (by decide) NoP.np (by kernel_rfl) (H.sub (by repeat (first | exact ln1 | exact ls1 | exact lr1 | apply lk1 | apply List.Sublist.cons | apply la1)))
     · intro w H
       refine i_loadRow hF h H rfl rfl (by repeat (first | exact mh1 | apply mt1 | apply ma1)) (by omega) (by decide) ?_
       intro a h
       exact ⟨rfl, h⟩
     clear h; intro a h
     apply dQ0 hF h 12 rfl rfl (by kernel_rfl) (by decide) NoP.np (fun _ => H.sub (by repeat (first | exact ln1 | exact ls1 | exact lr1 | apply lk1 | apply List.Sublist.cons | apply la1)))
     · intro w
       refine sM0 hF h rfl rfl (by decide) ?_
       intro a h
       exact ⟨rfl, h⟩
     clear h; intro a h
     apply dQ0 hF h 13 rfl rfl (by kernel_rfl) (by decide) NoP.np (fun _ => H.sub (by repeat (first | exact ln1 | exact ls1 | exact lr1 | apply lk1 | apply List.Sublist.cons | apply la1)))
     · intro w
       refine sM0 hF h rfl rfl (by decide) ?_
       intro a h
       exact ⟨rfl, h⟩
     clear h; intro a h
     apply dQ0 hF h 14 rfl rfl (by kernel_rfl) (by decide) NoP.np (fun _ => H.sub (by repeat (first | exact ln1 | exact ls1 | exact lr1 | apply lk1 | apply List.Sublist.cons | apply la1)))
     · intro w
       refine i_idxRow hF h rfl rfl rfl (by omega) (by omega) (by decide) ?_
       intro a h
       exact ⟨rfl, h⟩
     clear h; intro a h
     apply dP0 hF h 15 rfl rfl (by kernel_rfl) (by decide) NoP.np (by kernel_rfl) (H.sub (by repeat (first | exact ln1 | exact ls1 | exact lr1 | apply lk1 | apply List.Sublist.cons | apply la1)))
     · intro w H
       refine i_loadRow hF h H rfl rfl (by repeat (first | exact mh1 | apply mt1 | apply ma1)) (by omega) (by decide) ?_
       intro a h
       exact ⟨rfl, h⟩
     clear h; intro a h
     apply dQ0 hF h 16 rfl rfl (by kernel_rfl) (by decide) NoP.np (fun _ => H.sub (by repeat (first | exact ln1 | exact ls1 | exact lr1 | apply lk1 | apply List.Sublist.cons | apply la1)))
     · intro w
       refine i_idxRow hF h rfl rfl rfl (by omega) (by omega) (by decide) ?_
       intro a h
       exact ⟨rfl, h⟩
     clear h; intro a h
     refine dE0 17 rfl (by kernel_rfl) ?_
     refine i_storeRow hF h H rfl rfl rfl (by repeat (first | exact Upd.here | apply Upd.there | apply Upd.app)) (by (try simp only [List.length_set]); omega) ?_
     clear H; intro w H
     refine dNm0 (by kernel_rfl) ?_
     apply dQ0 hF h 18 rfl rfl (by kernel_rfl) (by decide) NoP.np (fun hh => absurd hh (by rw [show ph _ _ = true from by kernel_rfl]; decide))
     · intro w
       refine i_idxRow hF h rfl rfl rfl (by omega) (by omega) (by decide) ?_
       intro a h
       exact ⟨rfl, h⟩
     clear h; intro a h
     refine dE0 19 rfl (by kernel_rfl) ?_
     refine i_storeRow hF h H rfl rfl rfl (by repeat (first | exact Upd.here | apply Upd.there | apply Upd.app)) (by (try simp only [List.length_set]); omega) ?_
     clear H; intro w H
     refine dNm0 (by kernel_rfl) ?_
     first | refine d_endThen (by kernel_rfl) ?_ | refine d_endQ (by kernel_rfl) ?_
     have hsw := swapP (l := l') (i := (i : Int).toNat) (j := ((p : Int) + o).toNat) (by omega) (by omega)
     with_reducible repeat (first | refine xa0 ?_ | refine xb0 ?_ | refine xc0 ?_ | refine xd0 ?_ | refine xe0 (by decide) ?_ | refine xf0 ?_ | refine xg0 ?_ | refine xh0 ?_ | refine xi0 ?_)
     repeat refine cS0 ?_
     refine cR0 ?_
     refine sM0 hF h rfl rfl (by decide) ?_
     clear h; intro a h
     refine i_ar64 hF h rfl rfl rfl rfl (by omega) (by omega) (by decide) ?_
     clear h; intro a h
     refine sA0 hF h rfl rfl (by decide) ?_
     clear h; intro a h
     refine cE0 ?_
     exact ⟨p + d / 4 * 2 + 2 - (i + 1), by omega, i + 1, _, _, rfl, by omega, by omega, hsw.trans hp, (h.sub (by repeat (first | exact trivial | refine ⟨rfl, ?_⟩))), H⟩
   · repeat refine cS0 ?_
     refine cR0 ?_
     refine sM0 hF h rfl rfl (by decide) ?_
     clear h; intro a h
     refine sM0 hF h rfl rfl (by decide) ?_
     clear h; intro a h
     refine sM0 hF h rfl rfl (by decide) ?_
     clear h; intro a h
     refine i_quo hF h rfl rfl rfl (by omega) (by omega) (by simp only [IntKind.max, IntKind.signed, IntKind.bits, if_true]; omega) (by decide) ?_
     clear h; intro a h
     refine i_ar64 hF h rfl rfl rfl rfl (by omega) (by omega) (by decide) ?_
     clear h; intro a h
     refine i_ar64 hF h rfl rfl rfl rfl (by omega) (by omega) (by decide) ?_
     clear h; intro a h
     refine i_ar64 hF h rfl rfl rfl rfl (by omega) (by omega) (by decide) ?_
     clear h; intro a h
     (first | (refine iC0 hF h rfl rfl rfl (i_leq_t (by omega)) (by decide) ?_) | (refine iC0 hF h rfl rfl rfl (i_leq_f (by omega)) (by decide) ?_))
     clear h; intro a h
     first | refine cEt0 ?_ | refine cE0 ?_
     repeat refine cS0 ?_
     refine c_condF h rfl ?_
     refine c_exit ?_
     with_reducible repeat (first | refine xa0 ?_ | refine xb0 ?_ | refine xc0 ?_ | refine xd0 ?_ | refine xe0 (by decide) ?_ | refine xf0 ?_ | refine xg0 ?_ | refine xh0 ?_ | refine xi0 ?_)
     refine leaveN (fn := Tryz.f109) h Tryz.results109 .nil ?_
     exact ⟨_, rfl, l', hp, (H.sub (by repeat (first | exact ln1 | exact ls1 | exact lr1 | apply lk1 | apply List.Sublist.cons | apply la1)))⟩
 · repeat refine cS0 ?_
   refine cR0 ?_
   refine sM0 hF h rfl rfl (by decide) ?_
   clear h; intro a h
   (first | (refine iC0 hF h rfl rfl rfl (i_geq_t (by omega)) (by decide) ?_) | (refine iC0 hF h rfl rfl rfl (i_geq_f (by omega)) (by decide) ?_))
   clear h; intro a h
   first | refine cEt0 ?_ | refine cE0 ?_
   repeat refine cS0 ?_
   refine c_condF h rfl ?_
   refine cK0 ?_
   refine leaveN (fn := Tryz.f109) h Tryz.results109 .nil ?_
   exact ⟨_, rfl, l, .refl _, H⟩
end Go.Proofs.YtjlmpghcjgbfjaaGreatDoor.Cw
