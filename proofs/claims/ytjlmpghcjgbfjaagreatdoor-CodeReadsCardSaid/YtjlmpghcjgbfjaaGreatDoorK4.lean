/-
  A part of the proofs of this seat: the executor (one law an operation), the plain laws of code and its text, and the walks of the functions that are reached: Srt9 Nm1 Nm2 Nm3 ExT Tx1 ExU Bl1 Bl2 Tx2 Tx2b Tx3 ExV ExW Pu1 Pu2 Pa1 Rf1 Pa2 Rf2 Rf3.
-/
import Derived.Laws.MakeOwn
import Derived.Laws.CopyRow
import Derived.Laws.IdiomCopy
import Derived.Lib.Builder
import Derived.Laws.Externs
import Derived.Defers
import Derived.Recover
import Derived.Lib.AsciiSet
import Derived.Test.YtjlmpghcjgbfjaaGreatDoorK3
import Derived.Test.YtjlmpghcjgbfjaaGreatDoorK2
namespace Go.Proofs.YtjlmpghcjgbfjaaGreatDoor.Cw
open Go Go.RowKit Go.Proofs Ex Cd
set_option maxRecDepth 100000
theorem pdq_ret {n0 : Nat} {w0 : World} {b n cap : Nat} {junk : List Value} {X : List (Nat × Obj)} (hn2 : n ≤ 1000000) : ∀ (d : Nat) {l : List UInt8} {w : World}, St n0 w0 ((b, rowB l junk) :: X) w → l.length = n → ∀ p r lim : Nat, r - p ≤ d → p ≤ r → r ≤ n → lim ≤ 100 →
 Rets Tryz.prog 95 [sl b n cap, int p, int r, int lim] w fun _ w' => Mixed n0 w0 b junk X l w' := by
 intro d
 induction d using Nat.strongRecOn with
 | _ d ih =>
 intro l w H hn p r lim hd h1 h2 h3
 refine enter Tryz.func95 rfl (Nat.le_of_ble_eq_true rfl) ?_
 intro a h; rw [Tryz.ntmps95] at h
 have hF := Fd.wide
 repeat refine cS0 ?_
 refine cR0 ?_
 refine sA0 hF h rfl rfl (by decide) ?_
 clear h; intro a h
 first | refine cEt0 ?_ | refine cE0 ?_
 repeat refine cS0 ?_
 refine cR0 ?_
 refine sA0 hF h rfl rfl (by decide) ?_
 clear h; intro a h
 first | refine cEt0 ?_ | refine cE0 ?_
 repeat refine cS0 ?_
 refine c_block ?_
 refine c_loopN (fun k a' w' => ∃ p r lim : Nat, ∃ bal part : Bool, ∃ l', k = r - p ∧ r - p ≤ d ∧ p ≤ r ∧ r ≤ n ∧ lim ≤ 100 ∧ l'.Perm l ∧ Fr 134 [] [(8, .bool bal), (9, .bool part), (0, sl b n cap), (1, int p), (2, int r), (3, int lim)] a' ∧ St n0 w0 ((b, rowB l' junk) :: X) w') (r - p) ⟨p, r, lim, true, true, l, rfl, hd, h1, h2, h3, .refl _, (h.sub (by repeat (first | exact trivial | refine ⟨rfl, ?_⟩))), H⟩ ?_
 clear h H h1 h2 h3 hd p r lim
 rintro k a w ⟨p, r, lim, bal, part, l', rfl, hd, h1, h2, h3, hp, h, H⟩
 have hlen := hp.length_eq
 rw [hn] at hlen
 refine c_block ?_
 repeat refine cS0 ?_
 refine cR0 ?_
 refine sM0 hF h rfl rfl (by decide) ?_
 clear h; intro a h
 refine sM0 hF h rfl rfl (by decide) ?_
 clear h; intro a h
 refine i_ar64 hF h rfl rfl rfl rfl (by omega) (by omega) (by decide) ?_
 clear h; intro a h
 refine sA0 hF h rfl rfl (by decide) ?_
 clear h; intro a h
 first | refine cEt0 ?_ | refine cE0 ?_
 rw [show ((r : Int) - (p : Int)) = ((r - p : Nat) : Int) by omega] at h
 by_cases h12 : r - p ≤ 12
 · repeat refine cS0 ?_
   refine cR0 ?_
   refine sM0 hF h rfl rfl (by decide) ?_
   clear h; intro a h
   (first | (refine iC0 hF h rfl rfl rfl (i_leq_t (by omega)) (by decide) ?_) | (refine iC0 hF h rfl rfl rfl (i_leq_f (by omega)) (by decide) ?_))
   clear h; intro a h
   first | refine cEt0 ?_ | refine cE0 ?_
   repeat refine cS0 ?_
   refine c_condT h rfl ?_
   repeat refine cS0 ?_
   refine cR0 ?_
   refine sM0 hF h rfl rfl (by decide) ?_
   clear h; intro a h
   refine sM0 hF h rfl rfl (by decide) ?_
   clear h; intro a h
   refine sM0 hF h rfl rfl (by decide) ?_
   clear h; intro a h
   refine i_call hF h rfl (insertion_ret H hlen hn2 _ _ (by omega) (by omega)) rfl (by decide) ?_
   clear h H; rintro _ w ⟨l2, hp2, H⟩ a h
   first | refine cEt0 ?_ | refine cE0 ?_
   refine c_ret ?_
   with_reducible repeat (first | refine xa0 ?_ | refine xb0 ?_ | refine xc0 ?_ | refine xd0 ?_ | refine xe0 (by decide) ?_ | refine xf0 ?_ | refine xg0 ?_ | refine xh0 ?_ | refine xi0 ?_)
   refine leave (fn := Tryz.f95) h Tryz.results95 .nil ?_
   exact ⟨_, rfl, l2, hp2.trans hp, H⟩
 · repeat refine cS0 ?_
   refine cR0 ?_
   refine sM0 hF h rfl rfl (by decide) ?_
   clear h; intro a h
   (first | (refine iC0 hF h rfl rfl rfl (i_leq_t (by omega)) (by decide) ?_) | (refine iC0 hF h rfl rfl rfl (i_leq_f (by omega)) (by decide) ?_))
   clear h; intro a h
   first | refine cEt0 ?_ | refine cE0 ?_
   repeat refine cS0 ?_
   refine c_condF h rfl ?_
   first | refine cKt0 ?_ | refine cK0 ?_
   by_cases hl0 : lim = 0
   · repeat refine cS0 ?_
     refine cR0 ?_
     refine sM0 hF h rfl rfl (by decide) ?_
     clear h; intro a h
     (first | (refine iC0 hF h rfl rfl rfl (i_eql_t (by omega)) (by decide) ?_) | (refine iC0 hF h rfl rfl rfl (i_eql_f (by omega)) (by decide) ?_))
     clear h; intro a h
     first | refine cEt0 ?_ | refine cE0 ?_
     repeat refine cS0 ?_
     refine c_condT h rfl ?_
     repeat refine cS0 ?_
     refine cR0 ?_
     refine sM0 hF h rfl rfl (by decide) ?_
     clear h; intro a h
     refine sM0 hF h rfl rfl (by decide) ?_
     clear h; intro a h
     refine sM0 hF h rfl rfl (by decide) ?_
     clear h; intro a h
     refine i_call hF h rfl (heap_ret H hlen hn2 _ _ (by omega) (by omega)) rfl (by decide) ?_
     clear h H; rintro _ w ⟨l2, hp2, H⟩ a h
     first | refine cEt0 ?_ | refine cE0 ?_
     refine c_ret ?_
     with_reducible repeat (first | refine xa0 ?_ | refine xb0 ?_ | refine xc0 ?_ | refine xd0 ?_ | refine xe0 (by decide) ?_ | refine xf0 ?_ | refine xg0 ?_ | refine xh0 ?_ | refine xi0 ?_)
     refine leave (fn := Tryz.f95) h Tryz.results95 .nil ?_
     exact ⟨_, rfl, l2, hp2.trans hp, H⟩
   · repeat refine cS0 ?_
     refine cR0 ?_
     refine sM0 hF h rfl rfl (by decide) ?_
     clear h; intro a h
     (first | (refine iC0 hF h rfl rfl rfl (i_eql_t (by omega)) (by decide) ?_) | (refine iC0 hF h rfl rfl rfl (i_eql_f (by omega)) (by decide) ?_))
     clear h; intro a h
     first | refine cEt0 ?_ | refine cE0 ?_
     repeat refine cS0 ?_
     refine c_condF h rfl ?_
     first | refine cKt0 ?_ | refine cK0 ?_
     refine cS0 ?_
     refine c_join (fun a' w' => ∃ lim : Nat, ∃ l', lim ≤ 100 ∧ l'.Perm l ∧ Fr 134 [] [(10, int (r - p : Nat)), (8, .bool bal), (9, .bool part), (0, sl b n cap), (1, int p), (2, int r), (3, int lim)] a' ∧ St n0 w0 ((b, rowB l' junk) :: X) w') ?_ ?_
     · cases bal
       · repeat refine cS0 ?_
         refine cR0 ?_
         refine sM0 hF h rfl rfl (by decide) ?_
         clear h; intro a h
         refine i_not hF h rfl rfl (by decide) ?_
         clear h; intro a h; try simp only [Bool.not_false] at h
         first | refine cEt0 ?_ | refine cE0 ?_
         repeat refine cS0 ?_
         refine c_condT h rfl ?_
         repeat refine cS0 ?_
         refine cR0 ?_
         refine sM0 hF h rfl rfl (by decide) ?_
         clear h; intro a h
         refine sM0 hF h rfl rfl (by decide) ?_
         clear h; intro a h
         refine sM0 hF h rfl rfl (by decide) ?_
         clear h; intro a h
         refine i_call hF h rfl (break_ret H hlen hn2 _ _ (by omega) (by omega)) rfl (by decide) ?_
         clear h H; rintro _ w ⟨l2, hp2, H⟩ a h
         first | refine cEt0 ?_ | refine cE0 ?_
         repeat refine cS0 ?_
         refine cR0 ?_
         refine sM0 hF h rfl rfl (by decide) ?_
         clear h; intro a h
         refine i_ar64 hF h rfl rfl rfl rfl (by omega) (by omega) (by decide) ?_
         clear h; intro a h
         refine sA0 hF h rfl rfl (by decide) ?_
         clear h; intro a h
         refine cE0 ?_
         rw [show ((lim : Int) - 1) = ((lim - 1 : Nat) : Int) by omega] at h
         exact ⟨lim - 1, l2, by omega, hp2.trans hp, (h.sub (by repeat (first | exact trivial | refine ⟨rfl, ?_⟩))), H⟩
       · repeat refine cS0 ?_
         refine cR0 ?_
         refine sM0 hF h rfl rfl (by decide) ?_
         clear h; intro a h
         refine i_not hF h rfl rfl (by decide) ?_
         clear h; intro a h; try simp only [Bool.not_true] at h
         first | refine cEt0 ?_ | refine cE0 ?_
         repeat refine cS0 ?_
         refine c_condF h rfl ?_
         refine cK0 ?_
         exact ⟨lim, l', h3, hp, (h.sub (by repeat (first | exact trivial | refine ⟨rfl, ?_⟩))), H⟩
     clear h H hp hlen h3 hl0 lim l'
     rintro a w ⟨lim, l', h3, hp, h, H⟩
     have hlen := hp.length_eq
     rw [hn] at hlen
     repeat refine cS0 ?_
     refine cR0 ?_
     refine sM0 hF h rfl rfl (by decide) ?_
     clear h; intro a h
     refine sM0 hF h rfl rfl (by decide) ?_
     clear h; intro a h
     refine sM0 hF h rfl rfl (by decide) ?_
     clear h; intro a h
     refine i_call hF h rfl (pivot_ret H hlen hn2 _ _ (by omega) (by omega)) rfl (by decide) ?_
     clear h H; rintro _ w ⟨m, t, rfl, hm1, hm2, ht, H⟩ a h
     refine sM0 hF h rfl rfl (by decide) ?_
     clear h; intro a h
     refine iX0 hF h rfl rfl rfl (by decide) ?_
     clear h; intro a h
     refine iX0 hF h rfl rfl rfl (by decide) ?_
     clear h; intro a h
     refine sA0 hF h rfl rfl (by decide) ?_
     clear h; intro a h
     refine sA0 hF h rfl rfl (by decide) ?_
     clear h; intro a h
     first | refine cEt0 ?_ | refine cE0 ?_
     refine cS0 ?_
     refine c_join (fun a' w' => ∃ m t : Nat, ∃ l', p ≤ m ∧ m < r ∧ l'.Perm l ∧ Fr 134 [] [(11, int m), (12, int t), (10, int (r - p : Nat)), (8, .bool bal), (9, .bool part), (0, sl b n cap), (1, int p), (2, int r), (3, int lim)] a' ∧ St n0 w0 ((b, rowB l' junk) :: X) w') ?_ ?_
     · by_cases ht2 : t = 2
       · repeat refine cS0 ?_
         refine cR0 ?_
         refine sM0 hF h rfl rfl (by decide) ?_
         clear h; intro a h
         (first | (refine iC0 hF h rfl rfl rfl (i_eql_t (by omega)) (by decide) ?_) | (refine iC0 hF h rfl rfl rfl (i_eql_f (by omega)) (by decide) ?_))
         clear h; intro a h
         first | refine cEt0 ?_ | refine cE0 ?_
         repeat refine cS0 ?_
         refine c_condT h rfl ?_
         repeat refine cS0 ?_
         refine cR0 ?_
         refine sM0 hF h rfl rfl (by decide) ?_
         clear h; intro a h
         refine sM0 hF h rfl rfl (by decide) ?_
         clear h; intro a h
         refine sM0 hF h rfl rfl (by decide) ?_
         clear h; intro a h
         refine i_call hF h rfl (reverse_ret H hlen hn2 _ _ (by omega) (by omega)) rfl (by decide) ?_
         clear h H; rintro _ w ⟨l2, hp2, H⟩ a h
         first | refine cEt0 ?_ | refine cE0 ?_
         repeat refine cS0 ?_
         refine cR0 ?_
         refine sM0 hF h rfl rfl (by decide) ?_
         clear h; intro a h
         refine i_ar64 hF h rfl rfl rfl rfl (by omega) (by omega) (by decide) ?_
         clear h; intro a h
         refine sM0 hF h rfl rfl (by decide) ?_
         clear h; intro a h
         refine sM0 hF h rfl rfl (by decide) ?_
         clear h; intro a h
         refine i_ar64 hF h rfl rfl rfl rfl (by omega) (by omega) (by decide) ?_
         clear h; intro a h
         refine i_ar64 hF h rfl rfl rfl rfl (by omega) (by omega) (by decide) ?_
         clear h; intro a h
         refine sA0 hF h rfl rfl (by decide) ?_
         clear h; intro a h
         first | refine cEt0 ?_ | refine cE0 ?_
         rw [show ((r : Int) - 1 - ((m : Int) - (p : Int))) = ((r - 1 - (m - p) : Nat) : Int) by omega] at h
         repeat refine cS0 ?_
         refine cR0 ?_
         refine sA0 hF h rfl rfl (by decide) ?_
         clear h; intro a h
         refine cE0 ?_
         exact ⟨r - 1 - (m - p), 1, l2, by omega, by omega, hp2.trans hp, (h.sub (by repeat (first | exact trivial | refine ⟨rfl, ?_⟩))), H⟩
       · repeat refine cS0 ?_
         refine cR0 ?_
         refine sM0 hF h rfl rfl (by decide) ?_
         clear h; intro a h
         (first | (refine iC0 hF h rfl rfl rfl (i_eql_t (by omega)) (by decide) ?_) | (refine iC0 hF h rfl rfl rfl (i_eql_f (by omega)) (by decide) ?_))
         clear h; intro a h
         first | refine cEt0 ?_ | refine cE0 ?_
         repeat refine cS0 ?_
         refine c_condF h rfl ?_
         refine cK0 ?_
         exact ⟨m, t, l', hm1, hm2, hp, (h.sub (by repeat (first | exact trivial | refine ⟨rfl, ?_⟩))), H⟩
     clear h H hp hlen hm1 hm2 ht l' m t
     rintro a w ⟨m, t, l', hm1, hm2, hp, h, H⟩
     have hlen := hp.length_eq
     rw [hn] at hlen
     refine cS0 ?_
     refine c_join (fun a' w' => ∃ l', l'.Perm l ∧ Fr 134 [] [(11, int m), (12, int t), (10, int (r - p : Nat)), (8, .bool bal), (9, .bool part), (0, sl b n cap), (1, int p), (2, int r), (3, int lim)] a' ∧ St n0 w0 ((b, rowB l' junk) :: X) w') ?_ ?_
     · have no : ∀ a w, Fr 134 [] [(68, .bool false), (11, int m), (12, int t), (10, int (r - p : Nat)), (8, .bool bal), (9, .bool part), (0, sl b n cap), (1, int p), (2, int r), (3, int lim)] a → St n0 w0 ((b, rowB l' junk) :: X) w → True := fun _ _ _ _ => trivial
       clear no
       cases bal
       · repeat refine cS0 ?_
         refine cR0 ?_
         refine sM0 hF h rfl rfl (by decide) ?_
         clear h; intro a h
         refine sM0 hF h rfl rfl (by decide) ?_
         clear h; intro a h
         first | (refine sK0 hF h rfl (by decide) ?_; clear h; intro a h) | (refine sM0 hF h rfl rfl (by decide) ?_; clear h; intro a h)
         refine s_pick hF h rfl rfl rfl (by decide) ?_
         clear h; intro a h
         refine sM0 hF h rfl rfl (by decide) ?_
         clear h; intro a h
         first | (refine sK0 hF h rfl (by decide) ?_; clear h; intro a h) | (refine sM0 hF h rfl rfl (by decide) ?_; clear h; intro a h)
         first | (refine sK0 hF h rfl (by decide) ?_; clear h; intro a h) | ((first | (refine iC0 hF h rfl rfl rfl (i_eql_t (by omega)) (by decide) ?_) | (refine iC0 hF h rfl rfl rfl (i_eql_f (by omega)) (by decide) ?_)); clear h; intro a h)
         refine s_pick hF h rfl rfl rfl (by decide) ?_
         clear h; intro a h
         first | refine cEt0 ?_ | refine cE0 ?_
         repeat refine cS0 ?_
         refine c_condF h rfl ?_
         refine cK0 ?_
         exact ⟨l', hp, (h.sub (by repeat (first | exact trivial | refine ⟨rfl, ?_⟩))), H⟩
       · cases part
         · repeat refine cS0 ?_
           refine cR0 ?_
           refine sM0 hF h rfl rfl (by decide) ?_
           clear h; intro a h
           refine sM0 hF h rfl rfl (by decide) ?_
           clear h; intro a h
           first | (refine sK0 hF h rfl (by decide) ?_; clear h; intro a h) | (refine sM0 hF h rfl rfl (by decide) ?_; clear h; intro a h)
           refine s_pick hF h rfl rfl rfl (by decide) ?_
           clear h; intro a h
           refine sM0 hF h rfl rfl (by decide) ?_
           clear h; intro a h
           first | (refine sK0 hF h rfl (by decide) ?_; clear h; intro a h) | (refine sM0 hF h rfl rfl (by decide) ?_; clear h; intro a h)
           first | (refine sK0 hF h rfl (by decide) ?_; clear h; intro a h) | ((first | (refine iC0 hF h rfl rfl rfl (i_eql_t (by omega)) (by decide) ?_) | (refine iC0 hF h rfl rfl rfl (i_eql_f (by omega)) (by decide) ?_)); clear h; intro a h)
           refine s_pick hF h rfl rfl rfl (by decide) ?_
           clear h; intro a h
           first | refine cEt0 ?_ | refine cE0 ?_
           repeat refine cS0 ?_
           refine c_condF h rfl ?_
           refine cK0 ?_
           exact ⟨l', hp, (h.sub (by repeat (first | exact trivial | refine ⟨rfl, ?_⟩))), H⟩
         · by_cases ht1 : t = 1
           · repeat refine cS0 ?_
             refine cR0 ?_
             refine sM0 hF h rfl rfl (by decide) ?_
             clear h; intro a h
             refine sM0 hF h rfl rfl (by decide) ?_
             clear h; intro a h
             first | (refine sK0 hF h rfl (by decide) ?_; clear h; intro a h) | (refine sM0 hF h rfl rfl (by decide) ?_; clear h; intro a h)
             refine s_pick hF h rfl rfl rfl (by decide) ?_
             clear h; intro a h
             refine sM0 hF h rfl rfl (by decide) ?_
             clear h; intro a h
             first | (refine sK0 hF h rfl (by decide) ?_; clear h; intro a h) | (refine sM0 hF h rfl rfl (by decide) ?_; clear h; intro a h)
             first | (refine sK0 hF h rfl (by decide) ?_; clear h; intro a h) | ((first | (refine iC0 hF h rfl rfl rfl (i_eql_t (by omega)) (by decide) ?_) | (refine iC0 hF h rfl rfl rfl (i_eql_f (by omega)) (by decide) ?_)); clear h; intro a h)
             refine s_pick hF h rfl rfl rfl (by decide) ?_
             clear h; intro a h
             first | refine cEt0 ?_ | refine cE0 ?_
             repeat refine cS0 ?_
             refine c_condT h rfl ?_
             repeat refine cS0 ?_
             refine cR0 ?_
             refine sM0 hF h rfl rfl (by decide) ?_
             clear h; intro a h
             refine sM0 hF h rfl rfl (by decide) ?_
             clear h; intro a h
             refine sM0 hF h rfl rfl (by decide) ?_
             clear h; intro a h
             refine i_call hF h rfl (partial_ret H hlen hn2 _ _ (by omega) (by omega)) rfl (by decide) ?_
             clear h H; rintro _ w ⟨⟨q, rfl⟩, l2, hp2, H⟩ a h
             first | refine cEt0 ?_ | refine cE0 ?_
             cases q
             · repeat refine cS0 ?_
               refine c_condF h rfl ?_
               refine cK0 ?_
               exact ⟨l2, hp2.trans hp, (h.sub (by repeat (first | exact trivial | refine ⟨rfl, ?_⟩))), H⟩
             · repeat refine cS0 ?_
               refine c_condT h rfl ?_
               refine c_ret ?_
               with_reducible repeat (first | refine xa0 ?_ | refine xb0 ?_ | refine xc0 ?_ | refine xd0 ?_ | refine xe0 (by decide) ?_ | refine xf0 ?_ | refine xg0 ?_ | refine xh0 ?_ | refine xi0 ?_)
               refine leave (fn := Tryz.f95) h Tryz.results95 .nil ?_
               exact ⟨_, rfl, l2, hp2.trans hp, H⟩
           · repeat refine cS0 ?_
             refine cR0 ?_
             refine sM0 hF h rfl rfl (by decide) ?_
             clear h; intro a h
             refine sM0 hF h rfl rfl (by decide) ?_
             clear h; intro a h
             first | (refine sK0 hF h rfl (by decide) ?_; clear h; intro a h) | (refine sM0 hF h rfl rfl (by decide) ?_; clear h; intro a h)
             refine s_pick hF h rfl rfl rfl (by decide) ?_
             clear h; intro a h
             refine sM0 hF h rfl rfl (by decide) ?_
             clear h; intro a h
             first | (refine sK0 hF h rfl (by decide) ?_; clear h; intro a h) | (refine sM0 hF h rfl rfl (by decide) ?_; clear h; intro a h)
             first | (refine sK0 hF h rfl (by decide) ?_; clear h; intro a h) | ((first | (refine iC0 hF h rfl rfl rfl (i_eql_t (by omega)) (by decide) ?_) | (refine iC0 hF h rfl rfl rfl (i_eql_f (by omega)) (by decide) ?_)); clear h; intro a h)
             refine s_pick hF h rfl rfl rfl (by decide) ?_
             clear h; intro a h
             first | refine cEt0 ?_ | refine cE0 ?_
             repeat refine cS0 ?_
             refine c_condF h rfl ?_
             refine cK0 ?_
             exact ⟨l', hp, (h.sub (by repeat (first | exact trivial | refine ⟨rfl, ?_⟩))), H⟩
     clear h H hp hlen l'
     rintro a w ⟨l', hp, h, H⟩
     have hlen := hp.length_eq
     rw [hn] at hlen
     refine cS0 ?_
     refine c_join (fun a' w' => Fr 134 [] [(11, int m), (12, int t), (10, int (r - p : Nat)), (8, .bool bal), (9, .bool part), (0, sl b n cap), (1, int p), (2, int r), (3, int lim)] a' ∧ St n0 w0 ((b, rowB l' junk) :: X) w') ?_ ?_
     · have hex : ∀ (q : Bool) (a : Act) (w : World), True := fun _ _ _ => trivial
       clear hex
       by_cases hp0 : 0 < p
       · repeat refine cS0 ?_
         refine d_regionL [] (by kernel_rfl) H ?_
         clear H; intro w H
         apply dQ0 hF h 0 rfl rfl (by kernel_rfl) (by decide) NoP.np (fun _ => H.sub (by repeat (first | exact ln1 | exact ls1 | exact lr1 | apply lk1 | apply List.Sublist.cons | apply la1)))
         · intro w
           refine sM0 hF h rfl rfl (by decide) ?_
           intro a h
           exact ⟨rfl, h⟩
         clear h; intro a h
         apply dQ0 hF h 1 rfl rfl (by kernel_rfl) (by decide) NoP.np (fun _ => H.sub (by repeat (first | exact ln1 | exact ls1 | exact lr1 | apply lk1 | apply List.Sublist.cons | apply la1)))
         · intro w
           (first | (refine iC0 hF h rfl rfl rfl (i_gtr_t (by omega)) (by decide) ?_) | (refine iC0 hF h rfl rfl rfl (i_gtr_f (by omega)) (by decide) ?_))
           intro a h
           exact ⟨rfl, h⟩
         clear h; intro a h
         apply dQ0 hF h 2 rfl rfl (by kernel_rfl) (by decide) NoP.np (fun _ => H.sub (by repeat (first | exact ln1 | exact ls1 | exact lr1 | apply lk1 | apply List.Sublist.cons | apply la1)))
         · intro w
           refine sM0 hF h rfl rfl (by decide) ?_
           intro a h
           exact ⟨rfl, h⟩
         clear h; intro a h
         apply dQ0 hF h 3 rfl rfl (by kernel_rfl) (by decide) NoP.np (fun _ => H.sub (by repeat (first | exact ln1 | exact ls1 | exact lr1 | apply lk1 | apply List.Sublist.cons | apply la1)))
         · intro w
           first | (refine sK0 hF h rfl (by decide) ?_; intro a h) | (refine sM0 hF h rfl rfl (by decide) ?_; intro a h)
           exact ⟨rfl, h⟩
         clear h; intro a h
         apply dQ0 hF h 4 rfl rfl (by kernel_rfl) (by decide) NoP.np (fun _ => H.sub (by repeat (first | exact ln1 | exact ls1 | exact lr1 | apply lk1 | apply List.Sublist.cons | apply la1)))
         · intro w
           first | (refine sK0 hF h rfl (by decide) ?_; intro a h) | (refine sM0 hF h rfl rfl (by decide) ?_; intro a h)
           exact ⟨rfl, h⟩
         clear h; intro a h
         apply dQ0 hF h 5 rfl rfl (by kernel_rfl) (by decide) NoP.np (fun _ => H.sub (by repeat (first | exact ln1 | exact ls1 | exact lr1 | apply lk1 | apply List.Sublist.cons | apply la1)))
         · intro w
           first | (refine sK0 hF h rfl (by decide) ?_; intro a h) | (refine i_ar64 hF h rfl rfl rfl rfl (by omega) (by omega) (by decide) ?_; intro a h)
           exact ⟨rfl, h⟩
         clear h; intro a h
         apply dQ0 hF h 6 rfl rfl (by kernel_rfl) (by decide) NoP.np (fun _ => H.sub (by repeat (first | exact ln1 | exact ls1 | exact lr1 | apply lk1 | apply List.Sublist.cons | apply la1)))
         · intro w
           first | (refine sK0 hF h rfl (by decide) ?_; intro a h) | (refine i_idxRow hF h rfl rfl rfl (by omega) (by omega) (by decide) ?_; intro a h)
           exact ⟨rfl, h⟩
         clear h; intro a h
         apply dP0 hF h 7 rfl rfl (by kernel_rfl) (by decide) NoP.np (by kernel_rfl) (H.sub (by repeat (first | exact ln1 | exact ls1 | exact lr1 | apply lk1 | apply List.Sublist.cons | apply la1)))
         · intro w H
           first | (refine sK0 hF h rfl (by decide) ?_; intro a h) | (refine i_loadRow hF h H rfl rfl (by repeat (first | exact mh1 | apply mt1 | apply ma1)) (by omega) (by decide) ?_; intro a h)
           exact ⟨rfl, h⟩
         clear h; intro a h
         apply dQ0 hF h 8 rfl rfl (by kernel_rfl) (by decide) NoP.np (fun _ => H.sub (by repeat (first | exact ln1 | exact ls1 | exact lr1 | apply lk1 | apply List.Sublist.cons | apply la1)))
         · intro w
           first | (refine sK0 hF h rfl (by decide) ?_; intro a h) | (refine sM0 hF h rfl rfl (by decide) ?_; intro a h)
           exact ⟨rfl, h⟩
         clear h; intro a h
         apply dQ0 hF h 9 rfl rfl (by kernel_rfl) (by decide) NoP.np (fun _ => H.sub (by repeat (first | exact ln1 | exact ls1 | exact lr1 | apply lk1 | apply List.Sublist.cons | apply la1)))
         · intro w
           first | (refine sK0 hF h rfl (by decide) ?_; intro a h) | (refine sM0 hF h rfl rfl (by decide) ?_; intro a h)
           exact ⟨rfl, h⟩
         clear h; intro a h
         apply dQ0 hF h 10 rfl rfl (by kernel_rfl) (by decide) NoP.np (fun _ => H.sub (by repeat (first | exact ln1 | exact ls1 | exact lr1 | apply lk1 | apply List.Sublist.cons | apply la1)))
         · intro w
           first | (refine sK0 hF h rfl (by decide) ?_; intro a h) | (refine i_idxRow hF h rfl rfl rfl (by omega) (by omega) (by decide) ?_; intro a h)
           exact ⟨rfl, h⟩
         clear h; intro a h
         apply dP0 hF h 11 rfl rfl (by kernel_rfl) (by decide) NoP.np (by kernel_rfl) (H.sub (by repeat (first | exact ln1 | exact ls1 | exact lr1 | apply lk1 | apply List.Sublist.cons | apply la1)))
         · intro w H
           first | (refine sK0 hF h rfl (by decide) ?_; intro a h) | (refine i_loadRow hF h H rfl rfl (by repeat (first | exact mh1 | apply mt1 | apply ma1)) (by omega) (by decide) ?_; intro a h)
           exact ⟨rfl, h⟩
         clear h; intro a h
         refine dE0 12 rfl (by kernel_rfl) ?_
         first | (refine sK0 hF h rfl (by decide) ?_; clear h; intro a h) | (refine i_call hF h rfl (less_ret _ _ _) rfl (by decide) ?_; clear h; rintro _ w ⟨q, rfl, hb⟩ a h; replace H := H.call hb; clear hb)
         refine dN0 (H.sub (by repeat (first | exact ln1 | exact ls1 | exact lr1 | apply lk1 | apply List.Sublist.cons | apply la1))) ?_
         apply dQ0 hF h 13 rfl rfl (by kernel_rfl) (by decide) NoP.np (fun _ => H.sub (by repeat (first | exact ln1 | exact ls1 | exact lr1 | apply lk1 | apply List.Sublist.cons | apply la1)))
         · intro w
           first | (refine sK0 hF h rfl (by decide) ?_; intro a h) | (refine i_not hF h rfl rfl (by decide) ?_; intro a h; try simp only [Bool.not_true, Bool.not_false] at h)
           exact ⟨rfl, h⟩
         clear h; intro a h
         apply dQ0 hF h 14 rfl rfl (by kernel_rfl) (by decide) NoP.np (fun _ => H.sub (by repeat (first | exact ln1 | exact ls1 | exact lr1 | apply lk1 | apply List.Sublist.cons | apply la1)))
         · intro w
           refine s_pick hF h rfl rfl rfl (by decide) ?_
           intro a h
           exact ⟨rfl, h⟩
         clear h; intro a h
         first | refine d_endThen (by kernel_rfl) ?_ | refine d_endQ (by kernel_rfl) ?_
         cases q
         · repeat refine cS0 ?_
           refine c_condT h rfl ?_
           repeat refine cS0 ?_
           refine cR0 ?_
           refine sM0 hF h rfl rfl (by decide) ?_
           clear h; intro a h
           refine sM0 hF h rfl rfl (by decide) ?_
           clear h; intro a h
           refine sM0 hF h rfl rfl (by decide) ?_
           clear h; intro a h
           refine sM0 hF h rfl rfl (by decide) ?_
           clear h; intro a h
           refine i_call hF h rfl (partEq_ret H hlen hn2 _ _ _ (by omega) (by omega) (by omega)) rfl (by decide) ?_
           clear h H; rintro _ w ⟨⟨x, rfl, hx1, hx2⟩, l2, hp2, H⟩ a h
           refine sA0 hF h rfl rfl (by decide) ?_
           clear h; intro a h
           first | refine cEt0 ?_ | refine cE0 ?_
           repeat refine cS0 ?_
           refine cR0 ?_
           refine sM0 hF h rfl rfl (by decide) ?_
           clear h; intro a h
           refine sA0 hF h rfl rfl (by decide) ?_
           clear h; intro a h
           first | refine cEt0 ?_ | refine cE0 ?_
           refine c_exit ?_
           with_reducible repeat (first | refine xa0 ?_ | refine xb0 ?_ | refine xc0 ?_ | refine xd0 ?_ | refine xe0 (by decide) ?_ | refine xf0 ?_ | refine xg0 ?_ | refine xh0 ?_ | refine xi0 ?_)
           exact ⟨r - x, by omega, x, r, lim, bal, part, l2, rfl, by omega, by omega, by omega, h3, hp2.trans hp, (h.sub (by repeat (first | exact trivial | refine ⟨rfl, ?_⟩))), H⟩
         · repeat refine cS0 ?_
           refine c_condF h rfl ?_
           refine cK0 ?_
           exact ⟨(h.sub (by repeat (first | exact trivial | refine ⟨rfl, ?_⟩))), H⟩
       · repeat refine cS0 ?_
         refine d_regionL [] (by kernel_rfl) H ?_
         clear H; intro w H
         apply dQ0 hF h 0 rfl rfl (by kernel_rfl) (by decide) NoP.np (fun _ => H.sub (by repeat (first | exact ln1 | exact ls1 | exact lr1 | apply lk1 | apply List.Sublist.cons | apply la1)))
         · intro w
           refine sM0 hF h rfl rfl (by decide) ?_
           intro a h
           exact ⟨rfl, h⟩
         clear h; intro a h
         apply dQ0 hF h 1 rfl rfl (by kernel_rfl) (by decide) NoP.np (fun _ => H.sub (by repeat (first | exact ln1 | exact ls1 | exact lr1 | apply lk1 | apply List.Sublist.cons | apply la1)))
         · intro w
           (first | (refine iC0 hF h rfl rfl rfl (i_gtr_t (by omega)) (by decide) ?_) | (refine iC0 hF h rfl rfl rfl (i_gtr_f (by omega)) (by decide) ?_))
           intro a h
           exact ⟨rfl, h⟩
         clear h; intro a h
         apply dQ0 hF h 2 rfl rfl (by kernel_rfl) (by decide) NoP.np (fun _ => H.sub (by repeat (first | exact ln1 | exact ls1 | exact lr1 | apply lk1 | apply List.Sublist.cons | apply la1)))
         · intro w
           refine sM0 hF h rfl rfl (by decide) ?_
           intro a h
           exact ⟨rfl, h⟩
         clear h; intro a h
         apply dQ0 hF h 3 rfl rfl (by kernel_rfl) (by decide) NoP.np (fun _ => H.sub (by repeat (first | exact ln1 | exact ls1 | exact lr1 | apply lk1 | apply List.Sublist.cons | apply la1)))
         · intro w
           first | (refine sK0 hF h rfl (by decide) ?_; intro a h) | (refine sM0 hF h rfl rfl (by decide) ?_; intro a h)
           exact ⟨rfl, h⟩
         clear h; intro a h
         apply dQ0 hF h 4 rfl rfl (by kernel_rfl) (by decide) NoP.np (fun _ => H.sub (by repeat (first | exact ln1 | exact ls1 | exact lr1 | apply lk1 | apply List.Sublist.cons | apply la1)))
         · intro w
           first | (refine sK0 hF h rfl (by decide) ?_; intro a h) | (refine sM0 hF h rfl rfl (by decide) ?_; intro a h)
           exact ⟨rfl, h⟩
         clear h; intro a h
         apply dQ0 hF h 5 rfl rfl (by kernel_rfl) (by decide) NoP.np (fun _ => H.sub (by repeat (first | exact ln1 | exact ls1 | exact lr1 | apply lk1 | apply List.Sublist.cons | apply la1)))
         · intro w
           first | (refine sK0 hF h rfl (by decide) ?_; intro a h) | (refine i_ar64 hF h rfl rfl rfl rfl (by omega) (by omega) (by decide) ?_; intro a h)
           exact ⟨rfl, h⟩
         clear h; intro a h
         apply dQ0 hF h 6 rfl rfl (by kernel_rfl) (by decide) NoP.np (fun _ => H.sub (by repeat (first | exact ln1 | exact ls1 | exact lr1 | apply lk1 | apply List.Sublist.cons | apply la1)))
         · intro w
           first | (refine sK0 hF h rfl (by decide) ?_; intro a h) | (refine i_idxRow hF h rfl rfl rfl (by omega) (by omega) (by decide) ?_; intro a h)
           exact ⟨rfl, h⟩
         clear h; intro a h
         apply dP0 hF h 7 rfl rfl (by kernel_rfl) (by decide) NoP.np (by kernel_rfl) (H.sub (by repeat (first | exact ln1 | exact ls1 | exact lr1 | apply lk1 | apply List.Sublist.cons | apply la1)))
         · intro w H
           first | (refine sK0 hF h rfl (by decide) ?_; intro a h) | (refine i_loadRow hF h H rfl rfl (by repeat (first | exact mh1 | apply mt1 | apply ma1)) (by omega) (by decide) ?_; intro a h)
           exact ⟨rfl, h⟩
         clear h; intro a h
         apply dQ0 hF h 8 rfl rfl (by kernel_rfl) (by decide) NoP.np (fun _ => H.sub (by repeat (first | exact ln1 | exact ls1 | exact lr1 | apply lk1 | apply List.Sublist.cons | apply la1)))
         · intro w
           first | (refine sK0 hF h rfl (by decide) ?_; intro a h) | (refine sM0 hF h rfl rfl (by decide) ?_; intro a h)
           exact ⟨rfl, h⟩
         clear h; intro a h
         apply dQ0 hF h 9 rfl rfl (by kernel_rfl) (by decide) NoP.np (fun _ => H.sub (by repeat (first | exact ln1 | exact ls1 | exact lr1 | apply lk1 | apply List.Sublist.cons | apply la1)))
         · intro w
           first | (refine sK0 hF h rfl (by decide) ?_; intro a h) | (refine sM0 hF h rfl rfl (by decide) ?_; intro a h)
           exact ⟨rfl, h⟩
         clear h; intro a h
         apply dQ0 hF h 10 rfl rfl (by kernel_rfl) (by decide) NoP.np (fun _ => H.sub (by repeat (first | exact ln1 | exact ls1 | exact lr1 | apply lk1 | apply List.Sublist.cons | apply la1)))
         · intro w
           first | (refine sK0 hF h rfl (by decide) ?_; intro a h) | (refine i_idxRow hF h rfl rfl rfl (by omega) (by omega) (by decide) ?_; intro a h)
           exact ⟨rfl, h⟩
         clear h; intro a h
         apply dP0 hF h 11 rfl rfl (by kernel_rfl) (by decide) NoP.np (by kernel_rfl) (H.sub (by repeat (first | exact ln1 | exact ls1 | exact lr1 | apply lk1 | apply List.Sublist.cons | apply la1)))
         · intro w H
           first | (refine sK0 hF h rfl (by decide) ?_; intro a h) | (refine i_loadRow hF h H rfl rfl (by repeat (first | exact mh1 | apply mt1 | apply ma1)) (by omega) (by decide) ?_; intro a h)
           exact ⟨rfl, h⟩
         clear h; intro a h
         refine dE0 12 rfl (by kernel_rfl) ?_
         first | (refine sK0 hF h rfl (by decide) ?_; clear h; intro a h) | (refine i_call hF h rfl (less_ret _ _ _) rfl (by decide) ?_; clear h; rintro _ w ⟨q, rfl, hb⟩ a h; replace H := H.call hb; clear hb)
         refine dN0 (H.sub (by repeat (first | exact ln1 | exact ls1 | exact lr1 | apply lk1 | apply List.Sublist.cons | apply la1))) ?_
         apply dQ0 hF h 13 rfl rfl (by kernel_rfl) (by decide) NoP.np (fun _ => H.sub (by repeat (first | exact ln1 | exact ls1 | exact lr1 | apply lk1 | apply List.Sublist.cons | apply la1)))
         · intro w
           first | (refine sK0 hF h rfl (by decide) ?_; intro a h) | (refine i_not hF h rfl rfl (by decide) ?_; intro a h; try simp only [Bool.not_true, Bool.not_false] at h)
           exact ⟨rfl, h⟩
         clear h; intro a h
         apply dQ0 hF h 14 rfl rfl (by kernel_rfl) (by decide) NoP.np (fun _ => H.sub (by repeat (first | exact ln1 | exact ls1 | exact lr1 | apply lk1 | apply List.Sublist.cons | apply la1)))
         · intro w
           refine s_pick hF h rfl rfl rfl (by decide) ?_
           intro a h
           exact ⟨rfl, h⟩
         clear h; intro a h
         first | refine d_endThen (by kernel_rfl) ?_ | refine d_endQ (by kernel_rfl) ?_
         repeat refine cS0 ?_
         refine c_condF h rfl ?_
         refine cK0 ?_
         exact ⟨(h.sub (by repeat (first | exact trivial | refine ⟨rfl, ?_⟩))), H⟩
     clear h H
     rintro a w ⟨h, H⟩
     repeat refine cS0 ?_
     refine cR0 ?_
     refine sM0 hF h rfl rfl (by decide) ?_
     clear h; intro a h
     refine sM0 hF h rfl rfl (by decide) ?_
     clear h; intro a h
     refine sM0 hF h rfl rfl (by decide) ?_
     clear h; intro a h
     refine sM0 hF h rfl rfl (by decide) ?_
     clear h; intro a h
     refine i_call hF h rfl (part_ret H hlen hn2 _ _ _ (by omega) (by omega) (by omega)) rfl (by decide) ?_
     clear h H; rintro _ w ⟨⟨x, q, rfl, hx1, hx2⟩, l2, hp2, H⟩ a h
     refine sM0 hF h rfl rfl (by decide) ?_
     clear h; intro a h
     refine iX0 hF h rfl rfl rfl (by decide) ?_
     clear h; intro a h
     refine iX0 hF h rfl rfl rfl (by decide) ?_
     clear h; intro a h
     refine sA0 hF h rfl rfl (by decide) ?_
     clear h; intro a h
     refine sA0 hF h rfl rfl (by decide) ?_
     clear h; intro a h
     first | refine cEt0 ?_ | refine cE0 ?_
     repeat refine cS0 ?_
     refine cR0 ?_
     refine sM0 hF h rfl rfl (by decide) ?_
     clear h; intro a h
     refine sA0 hF h rfl rfl (by decide) ?_
     clear h; intro a h
     first | refine cEt0 ?_ | refine cE0 ?_
     repeat refine cS0 ?_
     refine cR0 ?_
     refine sM0 hF h rfl rfl (by decide) ?_
     clear h; intro a h
     refine sM0 hF h rfl rfl (by decide) ?_
     clear h; intro a h
     refine i_ar64 hF h rfl rfl rfl rfl (by omega) (by omega) (by decide) ?_
     clear h; intro a h
     refine sM0 hF h rfl rfl (by decide) ?_
     clear h; intro a h
     refine sM0 hF h rfl rfl (by decide) ?_
     clear h; intro a h
     refine i_ar64 hF h rfl rfl rfl rfl (by omega) (by omega) (by decide) ?_
     clear h; intro a h
     refine sA0 hF h rfl rfl (by decide) ?_
     clear h; intro a h
     refine sA0 hF h rfl rfl (by decide) ?_
     clear h; intro a h
     first | refine cEt0 ?_ | refine cE0 ?_
     rw [show ((x : Int) - (p : Int)) = ((x - p : Nat) : Int) by omega, show ((r : Int) - (x : Int)) = ((r - x : Nat) : Int) by omega] at h
     repeat refine cS0 ?_
     refine cR0 ?_
     refine sM0 hF h rfl rfl (by decide) ?_
     clear h; intro a h
     refine i_quo hF h rfl rfl rfl (by omega) (by omega) (by simp only [IntKind.max, IntKind.signed, IntKind.bits, if_true]; omega) (by decide) ?_
     clear h; intro a h
     refine sA0 hF h rfl rfl (by decide) ?_
     clear h; intro a h
     first | refine cEt0 ?_ | refine cE0 ?_
     have hp := hp2.trans hp
     have hlen := hp.length_eq
     rw [hn] at hlen
     by_cases hlr : x - p < r - x
     · repeat refine cS0 ?_
       refine cR0 ?_
       refine sM0 hF h rfl rfl (by decide) ?_
       clear h; intro a h
       refine sM0 hF h rfl rfl (by decide) ?_
       clear h; intro a h
       (first | (refine iC0 hF h rfl rfl rfl (i_lss_t (by omega)) (by decide) ?_) | (refine iC0 hF h rfl rfl rfl (i_lss_f (by omega)) (by decide) ?_))
       clear h; intro a h
       first | refine cEt0 ?_ | refine cE0 ?_
       repeat refine cS0 ?_
       refine c_condT h rfl ?_
       by_cases h8 : (r - p) / 8 ≤ x - p
       · skip
         repeat refine cS0 ?_
         refine cR0 ?_
         refine sM0 hF h rfl rfl (by decide) ?_
         clear h; intro a h
         refine sM0 hF h rfl rfl (by decide) ?_
         clear h; intro a h
         (first | (refine iC0 hF h rfl rfl rfl (i_geq_t (by omega)) (by decide) ?_) | (refine iC0 hF h rfl rfl rfl (i_geq_f (by omega)) (by decide) ?_))
         clear h; intro a h
         refine sA0 hF h rfl rfl (by decide) ?_
         clear h; intro a h
         first | refine cEt0 ?_ | refine cE0 ?_
         repeat refine cS0 ?_
         refine cR0 ?_
         refine sM0 hF h rfl rfl (by decide) ?_
         clear h; intro a h
         refine sM0 hF h rfl rfl (by decide) ?_
         clear h; intro a h
         refine sM0 hF h rfl rfl (by decide) ?_
         clear h; intro a h
         refine sM0 hF h rfl rfl (by decide) ?_
         clear h; intro a h
         refine i_call hF h rfl (ih (x - p) (by omega) H hlen _ _ _ (by omega) (by omega) (by omega) (by omega)) rfl (by decide) ?_
         clear h H; rintro _ w ⟨l3, hp3, H⟩ a h
         first | refine cEt0 ?_ | refine cE0 ?_
         repeat refine cS0 ?_
         refine cR0 ?_
         refine sM0 hF h rfl rfl (by decide) ?_
         clear h; intro a h
         refine i_ar64 hF h rfl rfl rfl rfl (by omega) (by omega) (by decide) ?_
         clear h; intro a h
         refine sA0 hF h rfl rfl (by decide) ?_
         clear h; intro a h
         refine cE0 ?_
         with_reducible repeat (first | refine xa0 ?_ | refine xb0 ?_ | refine xc0 ?_ | refine xd0 ?_ | refine xe0 (by decide) ?_ | refine xf0 ?_ | refine xg0 ?_ | refine xh0 ?_ | refine xi0 ?_)
         exact ⟨r - (x + 1), by omega, x + 1, r, lim, _, _, l3, rfl, by omega, by omega, by omega, h3, hp3.trans hp, (h.sub (by repeat (first | exact trivial | refine ⟨rfl, ?_⟩))), H⟩
       · skip
         repeat refine cS0 ?_
         refine cR0 ?_
         refine sM0 hF h rfl rfl (by decide) ?_
         clear h; intro a h
         refine sM0 hF h rfl rfl (by decide) ?_
         clear h; intro a h
         (first | (refine iC0 hF h rfl rfl rfl (i_geq_t (by omega)) (by decide) ?_) | (refine iC0 hF h rfl rfl rfl (i_geq_f (by omega)) (by decide) ?_))
         clear h; intro a h
         refine sA0 hF h rfl rfl (by decide) ?_
         clear h; intro a h
         first | refine cEt0 ?_ | refine cE0 ?_
         repeat refine cS0 ?_
         refine cR0 ?_
         refine sM0 hF h rfl rfl (by decide) ?_
         clear h; intro a h
         refine sM0 hF h rfl rfl (by decide) ?_
         clear h; intro a h
         refine sM0 hF h rfl rfl (by decide) ?_
         clear h; intro a h
         refine sM0 hF h rfl rfl (by decide) ?_
         clear h; intro a h
         refine i_call hF h rfl (ih (x - p) (by omega) H hlen _ _ _ (by omega) (by omega) (by omega) (by omega)) rfl (by decide) ?_
         clear h H; rintro _ w ⟨l3, hp3, H⟩ a h
         first | refine cEt0 ?_ | refine cE0 ?_
         repeat refine cS0 ?_
         refine cR0 ?_
         refine sM0 hF h rfl rfl (by decide) ?_
         clear h; intro a h
         refine i_ar64 hF h rfl rfl rfl rfl (by omega) (by omega) (by decide) ?_
         clear h; intro a h
         refine sA0 hF h rfl rfl (by decide) ?_
         clear h; intro a h
         refine cE0 ?_
         with_reducible repeat (first | refine xa0 ?_ | refine xb0 ?_ | refine xc0 ?_ | refine xd0 ?_ | refine xe0 (by decide) ?_ | refine xf0 ?_ | refine xg0 ?_ | refine xh0 ?_ | refine xi0 ?_)
         exact ⟨r - (x + 1), by omega, x + 1, r, lim, _, _, l3, rfl, by omega, by omega, by omega, h3, hp3.trans hp, (h.sub (by repeat (first | exact trivial | refine ⟨rfl, ?_⟩))), H⟩
     · repeat refine cS0 ?_
       refine cR0 ?_
       refine sM0 hF h rfl rfl (by decide) ?_
       clear h; intro a h
       refine sM0 hF h rfl rfl (by decide) ?_
       clear h; intro a h
       (first | (refine iC0 hF h rfl rfl rfl (i_lss_t (by omega)) (by decide) ?_) | (refine iC0 hF h rfl rfl rfl (i_lss_f (by omega)) (by decide) ?_))
       clear h; intro a h
       first | refine cEt0 ?_ | refine cE0 ?_
       repeat refine cS0 ?_
       refine c_condF h rfl ?_
       by_cases h8 : (r - p) / 8 ≤ r - x
       · skip
         repeat refine cS0 ?_
         refine cR0 ?_
         refine sM0 hF h rfl rfl (by decide) ?_
         clear h; intro a h
         refine sM0 hF h rfl rfl (by decide) ?_
         clear h; intro a h
         (first | (refine iC0 hF h rfl rfl rfl (i_geq_t (by omega)) (by decide) ?_) | (refine iC0 hF h rfl rfl rfl (i_geq_f (by omega)) (by decide) ?_))
         clear h; intro a h
         refine sA0 hF h rfl rfl (by decide) ?_
         clear h; intro a h
         first | refine cEt0 ?_ | refine cE0 ?_
         repeat refine cS0 ?_
         refine cR0 ?_
         refine sM0 hF h rfl rfl (by decide) ?_
         clear h; intro a h
         refine sM0 hF h rfl rfl (by decide) ?_
         clear h; intro a h
         refine i_ar64 hF h rfl rfl rfl rfl (by omega) (by omega) (by decide) ?_
         clear h; intro a h
         refine sM0 hF h rfl rfl (by decide) ?_
         clear h; intro a h
         refine sM0 hF h rfl rfl (by decide) ?_
         clear h; intro a h
         refine i_call hF h rfl (ih (r - (x + 1)) (by omega) H hlen (x + 1) _ _ (by omega) (by omega) (by omega) (by omega)) rfl (by decide) ?_
         clear h H; rintro _ w ⟨l3, hp3, H⟩ a h
         first | refine cEt0 ?_ | refine cE0 ?_
         repeat refine cS0 ?_
         refine cR0 ?_
         refine sM0 hF h rfl rfl (by decide) ?_
         clear h; intro a h
         refine sA0 hF h rfl rfl (by decide) ?_
         clear h; intro a h
         refine cE0 ?_
         with_reducible repeat (first | refine xa0 ?_ | refine xb0 ?_ | refine xc0 ?_ | refine xd0 ?_ | refine xe0 (by decide) ?_ | refine xf0 ?_ | refine xg0 ?_ | refine xh0 ?_ | refine xi0 ?_)
         exact ⟨x - p, by omega, p, x, lim, _, _, l3, rfl, by omega, by omega, by omega, h3, hp3.trans hp, (h.sub (by repeat (first | exact trivial | refine ⟨rfl, ?_⟩))), H⟩
       · skip
         repeat refine cS0 ?_
         refine cR0 ?_
         refine sM0 hF h rfl rfl (by decide) ?_
         clear h; intro a h
         refine sM0 hF h rfl rfl (by decide) ?_
         clear h; intro a h
         (first | (refine iC0 hF h rfl rfl rfl (i_geq_t (by omega)) (by decide) ?_) | (refine iC0 hF h rfl rfl rfl (i_geq_f (by omega)) (by decide) ?_))
         clear h; intro a h
         refine sA0 hF h rfl rfl (by decide) ?_
         clear h; intro a h
         first | refine cEt0 ?_ | refine cE0 ?_
         repeat refine cS0 ?_
         refine cR0 ?_
         refine sM0 hF h rfl rfl (by decide) ?_
         clear h; intro a h
         refine sM0 hF h rfl rfl (by decide) ?_
         clear h; intro a h
         refine i_ar64 hF h rfl rfl rfl rfl (by omega) (by omega) (by decide) ?_
         clear h; intro a h
         refine sM0 hF h rfl rfl (by decide) ?_
         clear h; intro a h
         refine sM0 hF h rfl rfl (by decide) ?_
         clear h; intro a h
         refine i_call hF h rfl (ih (r - (x + 1)) (by omega) H hlen (x + 1) _ _ (by omega) (by omega) (by omega) (by omega)) rfl (by decide) ?_
         clear h H; rintro _ w ⟨l3, hp3, H⟩ a h
         first | refine cEt0 ?_ | refine cE0 ?_
         repeat refine cS0 ?_
         refine cR0 ?_
         refine sM0 hF h rfl rfl (by decide) ?_
         clear h; intro a h
         refine sA0 hF h rfl rfl (by decide) ?_
         clear h; intro a h
         refine cE0 ?_
         with_reducible repeat (first | refine xa0 ?_ | refine xb0 ?_ | refine xc0 ?_ | refine xd0 ?_ | refine xe0 (by decide) ?_ | refine xf0 ?_ | refine xg0 ?_ | refine xh0 ?_ | refine xi0 ?_)
         exact ⟨x - p, by omega, p, x, lim, _, _, l3, rfl, by omega, by omega, by omega, h3, hp3.trans hp, (h.sub (by repeat (first | exact trivial | refine ⟨rfl, ?_⟩))), H⟩
end Go.Proofs.YtjlmpghcjgbfjaaGreatDoor.Cw
namespace Go.Proofs.YtjlmpghcjgbfjaaGreatDoor.Cw
open Go Go.RowKit Go.Proofs Ex Cd
set_option maxRecDepth 100000
/-- what a walk over a map has shown -/
def Seen (M : Ents UInt8) (pre : List UInt8) (vis : Ents UInt8) : Prop :=
 pre = vis.map (·.1) ∧ vis.length + toCome M (vis.map (·.2.2)) ≤ M.length ∧ (∀ x ∈ vis, x ∈ M) ∧ (vis.map (·.2.2)).Nodup
theorem Seen.nil (M : Ents UInt8) : Seen M [] [] := ⟨rfl, by simp [toCome], by simp, by simp⟩
theorem Seen.more {M : Ents UInt8} {pre : List UInt8} {vis : Ents UInt8} {x : UInt8 × Value × Nat} (h : Seen M pre vis) (hx : x ∈ M) (hn : x.2.2 ∉ vis.map (·.2.2)) : Seen M (pre ++ [x.1]) (vis ++ [x]) := by
 obtain ⟨rfl, h2, h3, h4⟩ := h
 have := toCome_lt hx hn
 refine ⟨by simp, ?_, ?_, ?_⟩
 · simp only [List.map_append, List.map_cons, List.map_nil, List.length_append, List.length_cons, List.length_nil]; omega
 · intro y hy
   rcases List.mem_append.1 hy with hy | hy
   · exact h3 y hy
   · have : y = x := by simpa using hy
     subst this; exact hx
 · rw [List.map_append, List.nodup_append]
   refine ⟨h4, by simp, ?_⟩
   intro a ha b hb e
   have : b = x.2.2 := by simpa using hb
   exact hn (by rw [← this, ← e]; exact ha)
theorem nodup_of_map {α β : Type} (f : α → β) : ∀ (l : List α), (l.map f).Nodup → l.Nodup
 | [], _ => by simp
 | x :: l, h => by
  rw [List.map_cons, List.nodup_cons] at h
  rw [List.nodup_cons]
  exact ⟨fun hx => h.1 (List.mem_map.2 ⟨x, hx, rfl⟩), nodup_of_map f l h.2⟩
theorem inj_of_map {α β : Type} (f : α → β) : ∀ (l : List α), (l.map f).Nodup → ∀ x ∈ l, ∀ y ∈ l, f x = f y → x = y
 | [], _, x, hx, _, _, _ => by cases hx
 | z :: l, h, x, hx, y, hy, e => by
  rw [List.map_cons, List.nodup_cons] at h
  rcases List.mem_cons.1 hx with hx1 | hx1 <;> rcases List.mem_cons.1 hy with hy1 | hy1
  · rw [hx1, hy1]
  · exact absurd (List.mem_map.2 ⟨y, hy1, by rw [← e, hx1]⟩) h.1
  · exact absurd (List.mem_map.2 ⟨x, hx1, by rw [e, hy1]⟩) h.1
  · exact inj_of_map f l h.2 x hx1 y hy1 e
theorem Seen.all {M : Ents UInt8} {c : Nat} {pre : List UInt8} {vis : Ents UInt8} (hM : MapOk M c) (h : Seen M pre vis) (ha : ∀ x ∈ M, x.2.2 ∈ vis.map (·.2.2)) : pre.Perm (M.map (·.1)) := by
 obtain ⟨rfl, h2, h3, h4⟩ := h
 refine List.Perm.map _ ?_
 refine (List.perm_ext_iff_of_nodup (nodup_of_map _ _ h4) (nodup_of_map _ _ hM.born)).2 fun x => ⟨h3 x, fun hx => ?_⟩
 obtain ⟨y, hy, e⟩ := List.mem_map.1 (ha x hx)
 rw [← inj_of_map _ _ hM.born y (h3 y hy) x hx e]
 exact hy
theorem keys_iter (bx b c : Nat) (M : Ents UInt8) (hM : MapOk M c) :
 Iter Tryz.prog 81 [ptr bx 0] (fun k : UInt8 => [byt k]) (fun xs => xs.Perm (M.map (·.1))) (fun pre => pre.length ≤ M.length) (fun W => W.cell? ⟨bx, 0, none⟩ = some (.map (some b)) ∧ W.heap[b]? = some (mapObj byt M c)) := by
 intro l n0 w0 J Jx w L hRd h0 H hY
 refine callsIn_wide.2 ?_
 refine enter Tryz.func81 rfl (Nat.le_of_ble_eq_true rfl) ?_
 intro a h; rw [Tryz.ntmps81] at h
 have hF := Fd.wide
 have hR := hRd [] L w h0 H
 have hlt := lt_of_heap hR.2
 repeat refine cS0 ?_
 refine cR0 ?_
 refine i_loadW hF h rfl rfl hR.1 (by decide) ?_
 clear h; intro a h
 refine i_range (enc := byt) hF h H rfl rfl hR.2 (by decide) ?_
 clear h H; intro a w b5 hr5 h H hm5
 first | refine cEt0 ?_ | refine cE0 ?_
 have hne : b ≠ b5 := by omega
 repeat refine cS0 ?_
 refine c_block ?_
 refine c_loopN (fun k a' w' => ∃ pre vis L1, k = toCome M (vis.map (·.2.2)) ∧ Seen M pre vis ∧ J pre L1 ∧ Fr 14 [] [(5, ptr b5 0), (1, ptr bx 0), (0, .func (.yield l) #[] #[])] a' ∧ St n0 w0 ((b5, .mapIter (some b) c (vis.map (·.2.2)).toArray c) :: L1) w') (toCome M []) ⟨[], [], L, rfl, Seen.nil M, h0, (h.sub (by repeat (first | exact trivial | refine ⟨rfl, ?_⟩))), H⟩ ?_
 clear h H h0 hR hm5 hr5 hlt
 rintro q a w ⟨pre, vis, L1, rfl, hs, hJ, h, H⟩
 have hR := hRd pre L1 w hJ (H.sub (.cons _ (.refl _)))
 repeat refine cS0 ?_
 refine cR0 ?_
 refine j_next _ hF h H rfl rfl hR.2 hM (fun i => by repeat (first | exact Upd.here | apply Upd.there | apply Upd.app)) hne (by decide) ?_ ?_
 · clear h H hR
   intro hall a w h H
   refine iX0 hF h rfl rfl rfl (by decide) ?_
   clear h; intro a h
   refine cEt0 ?_
   repeat refine cS0 ?_
   refine c_condF h rfl ?_
   refine c_exit ?_
   with_reducible repeat (first | refine xa0 ?_ | refine xb0 ?_ | refine xc0 ?_ | refine xd0 ?_ | refine xe0 (by decide) ?_ | refine xf0 ?_ | refine xg0 ?_ | refine xh0 ?_ | refine xi0 ?_)
   refine leaveN (fn := Tryz.f81) h Tryz.results81 .nil ?_
   exact ⟨⟨_, rfl⟩, .inl ⟨pre, L1, hs.all hM hall, hJ, H.sub (.cons _ (.refl _))⟩⟩
 · clear h H hR
   intro x hx hns a w h H
   have hdec := toCome_lt hx hns
   have hs' := hs.more hx hns
   have e : (vis ++ [x]).map (·.2.2) = vis.map (·.2.2) ++ [x.2.2] := by simp
   rw [← e] at hdec H
   have hR := hRd pre L1 w hJ (H.sub (.cons _ (.refl _)))
   refine iX0 hF h rfl rfl rfl (by decide) ?_
   clear h; intro a h
   refine cEt0 ?_
   repeat refine cS0 ?_
   refine c_condT h rfl ?_
   first | refine cKt0 ?_ | refine cK0 ?_
   repeat refine cS0 ?_
   refine c_block ?_
   repeat refine cS0 ?_
   refine cR0 ?_
   refine i_entry hF h H rfl rfl hR.2 hM hx (by rw [e]; exact mh1) (by decide) ?_
   clear h; intro a h
   refine iX0 hF h rfl rfl rfl (by decide) ?_
   clear h; intro a h
   refine sA0 hF h rfl rfl (by decide) ?_
   clear h; intro a h
   refine cEt0 ?_
   have hsp : (pre ++ [x.1]).length ≤ M.length := by
    have := hs'.2.1
    rw [hs'.1, List.length_map]; omega
   have hy := hY [_] pre x.1 L1 w hJ hsp H
   repeat refine cS0 ?_
   refine cR0 ?_
   refine sM0 hF h rfl rfl (by decide) ?_
   clear h; intro a h
   refine sM0 hF h rfl rfl (by decide) ?_
   clear h; intro a h
   refine i_yield h rfl rfl rfl hy (by decide) ?_ ?_
   · clear h H hR
     rintro w ⟨L2, hJ2, H⟩ a h
     refine i_not hF h rfl rfl (by decide) ?_
     clear h; intro a h; try simp only [Bool.not_true] at h
     refine cEt0 ?_
     repeat refine cS0 ?_
     refine c_condF h rfl ?_
     refine cK0 ?_
     with_reducible repeat (first | refine xa0 ?_ | refine xb0 ?_ | refine xc0 ?_ | refine xd0 ?_ | refine xe0 (by decide) ?_ | refine xf0 ?_ | refine xg0 ?_ | refine xh0 ?_ | refine xi0 ?_)
     exact ⟨_, hdec, _, vis ++ [x], L2, rfl, hs', hJ2, (h.sub (by repeat (first | exact trivial | refine ⟨rfl, ?_⟩))), H⟩
   · clear h H hR
     rintro w ⟨L2, hJ2, H⟩ a h
     refine i_not hF h rfl rfl (by decide) ?_
     clear h; intro a h; try simp only [Bool.not_false] at h
     refine cEt0 ?_
     repeat refine cS0 ?_
     refine c_condT h rfl ?_
     refine c_ret ?_
     with_reducible repeat (first | refine xa0 ?_ | refine xb0 ?_ | refine xc0 ?_ | refine xd0 ?_ | refine xe0 (by decide) ?_ | refine xf0 ?_ | refine xg0 ?_ | refine xh0 ?_ | refine xi0 ?_)
     refine leave (fn := Tryz.f81) h Tryz.results81 .nil ?_
     exact ⟨⟨_, rfl⟩, .inr ⟨pre ++ [x.1], L2, hsp, hJ2, H.sub (.cons _ (.refl _))⟩⟩
end Go.Proofs.YtjlmpghcjgbfjaaGreatDoor.Cw
namespace Go.Proofs.YtjlmpghcjgbfjaaGreatDoor.Cw
open Go Go.RowKit Go.Proofs Ex Cd
set_option maxRecDepth 100000
theorem keysF_ret (v : Value) (h1 : v.oneCell' = true) (w : World) : Rets Tryz.prog 63 [v] w fun u w' => ∃ bx, u = .func (.func 81) #[] #[ptr bx 0] ∧ w.heap.size ≤ bx ∧ w'.heap[bx]? = some (.cells [v].toArray 56 (0, 0)) ∧ Below w.heap.size w w' := by
 refine enter Tryz.func63 rfl (Nat.le_of_ble_eq_true rfl) ?_
 intro a h; rw [Tryz.ntmps63] at h
 have hF := Fd.wide; have H := St.begin w
 repeat refine cS0 ?_
 refine cR0 ?_
 refine i_box1 hF h H rfl rfl h1 (by decide) ?_
 clear h H; intro a w b1 _ h H
 refine sA0 hF h rfl rfl (by decide) ?_
 clear h; intro a h
 refine cEt0 ?_
 repeat refine cS0 ?_
 refine cR0 ?_
 refine i_makeFunc hF h rfl rfl (by decide) ?_
 clear h; intro a h
 refine sA0 hF h rfl rfl (by decide) ?_
 clear h; intro a h
 first | refine cEt0 ?_ | refine cE0 ?_
 refine c_ret ?_
 with_reducible repeat (first | refine xa0 ?_ | refine xb0 ?_ | refine xc0 ?_ | refine xd0 ?_ | refine xe0 (by decide) ?_ | refine xf0 ?_ | refine xg0 ?_ | refine xh0 ?_ | refine xi0 ?_)
 refine leave (fn := Tryz.f63) h Tryz.results63 (.tmp rfl (.nil)) ?_
 exact ⟨_, rfl, b1, rfl, H.own _ (List.Mem.head _), H.mem (List.Mem.head _), H.done⟩
theorem appendSeq_ret (bx b c : Nat) (M : Ents UInt8) (hM : MapOk M c) (hlen : M.length ≤ 1000000) (w : World) (hbx : bx < w.heap.size) (hc : w.cell? ⟨bx, 0, none⟩ = some (.map (some b))) (hm : w.heap[b]? = some (mapObj byt M c)) :
 Rets Tryz.prog 94 [.slice none 0 0, .func (.func 81) #[] #[ptr bx 0]] w fun u w' => ∃ xs : List UInt8, xs.Perm (M.map (·.1)) ∧ GivesRow 5 byt xs w u w' := by
 have hbs := lt_of_heap hm
 refine enterM Tryz.func94 rfl (Nat.le_of_ble_eq_true rfl) ?_
 intro a h; rw [Tryz.ntmps94] at h
 have hF := Fd.wide; have H := St.begin w
 repeat refine cS0 ?_
 refine cR0 ?_
 refine i_box1 hF h H rfl rfl rfl (by decide) ?_
 clear h H; intro a w b2 _ h H
 refine sA0 hF h rfl rfl (by decide) ?_
 clear h; intro a h
 first | refine cEt0 ?_ | refine cE0 ?_
 repeat refine cS0 ?_
 refine cR0 ?_
 refine sM0 hF h rfl rfl (by decide) ?_
 clear h; intro a h
 first | refine cEt0 ?_ | refine cE0 ?_
 repeat refine cS0 ?_
 refine c_block ?_
 refine c_rangeFunc (ps := [7]) (Rd := fun W => W.cell? ⟨bx, 0, none⟩ = some (.map (some b)) ∧ W.heap[b]? = some (mapObj byt M c)) h H rfl (keys_iter bx b c M hM)
  (fun pre L1 => ∃ u R, RowIs 5 1 u pre.length (pre.map byt) R ∧ L1 = R ++ [(b2, .cells [u].toArray 22 (0, 0))]) (fun _ _ _ => False)
  (fun k => [(5, byt k), (2, ptr b2 0)]) (fun _ => rfl) (by decide) ⟨.slice none 0 0, [], RowIs.nil 5 1, rfl⟩ ?_ ?_ ?_ ?_ ?_
 · rintro pre _ W ⟨u, R, hr, rfl⟩ H
   exact ⟨(H.below.cell (p := ⟨bx, 0, none⟩) hbx).trans hc, (H.below.block b hbs).trans hm⟩
 · intro l k w a h
   have hF := Fd.inRound l
   repeat refine cS0 ?_
   refine cR0 ?_
   refine sA0 hF h rfl rfl (by decide) ?_
   clear h; intro a h
   refine cE0 ?_
   exact ⟨rfl, (h.sub (by repeat (first | exact trivial | refine ⟨rfl, ?_⟩)))⟩
 · clear h H
   rintro l E pre k _ w a ⟨u, R, hr, rfl⟩ hsp H h
   have hF := Fd.inRound l
   simp only [List.length_append, List.length_cons, List.length_nil] at hsp
   refine c_block ?_
   replace H := H.swap
   repeat refine cS0 ?_
   refine cR0 ?_
   refine iL0 hF h H rfl rfl (by repeat (first | exact mh1 | apply mt1 | apply ma1)) (by exact rfl) (by decide) ?_
   clear h; intro a h
   refine sM0 hF h rfl rfl (by decide) ?_
   clear h; intro a h
   refine i_buildSlice hF h H rfl rfl (by decide) (by decide) rfl (by decide) ?_
   clear h H; intro a w b10 _ h H
   replace H := H.newIn
   refine i_append hF h hr H rfl rfl rfl (m := 1) (news := [byt k]) rfl (cells_own H (by repeat (first | exact mh1 | apply mt1 | apply ma1))) (by simp [Value.oneCell']) (by omega) (by omega) (by decide) ?_
   clear h H
   intro a w u' R' hr' H h
   refine jS0 hF h H rfl rfl rfl hr'.one (by repeat (first | exact Upd.here | apply Upd.there | apply Upd.app)) (by repeat (first | exact SetAt.zero | apply SetAt.succ)) ?_
   clear H; intro w H
   refine cE0 ?_
   with_reducible repeat (first | refine xa0 ?_ | refine xb0 ?_ | refine xc0 ?_ | refine xd0 ?_ | refine xe0 (by decide) ?_ | refine xf0 ?_ | refine xg0 ?_ | refine xh0 ?_ | refine xi0 ?_)
   refine ⟨_, ⟨u', R', ?_, rfl⟩, H.dropIn.swap⟩
   simpa using hr'
 · clear h H
   rintro D xs _ w a hxs ⟨u, R, hr, rfl⟩ H h
   with_reducible repeat (first | refine xa0 ?_ | refine xb0 ?_ | refine xc0 ?_ | refine xd0 ?_ | refine xe0 (by decide) ?_ | refine xf0 ?_ | refine xg0 ?_ | refine xh0 ?_ | refine xi0 ?_)
   repeat refine cS0 ?_
   refine cR0 ?_
   refine iL0 hF h H rfl rfl (by repeat (first | exact mh1 | apply mt1 | apply ma1)) (by exact rfl) (by decide) ?_
   clear h; intro a h
   refine sA0 hF h rfl rfl (by decide) ?_
   clear h; intro a h
   first | refine cEt0 ?_ | refine cE0 ?_
   refine c_ret ?_
   with_reducible repeat (first | refine xa0 ?_ | refine xb0 ?_ | refine xc0 ?_ | refine xd0 ?_ | refine xe0 (by decide) ?_ | refine xf0 ?_ | refine xg0 ?_ | refine xh0 ?_ | refine xi0 ?_)
   refine leaveM (Ds := [D]) (fn := Tryz.f94) Tryz.results94 h H (fun w' H' => .tmp rfl .nil) (fun w' H' => ?_)
   exact ⟨_, rfl, xs, hxs, GivesRow.of (L := [(b2, .cells [u].toArray 22 (0, 0))]) hr rfl H'⟩
 · rintro _ _ _ _ _ _ _ h _ _
   exact h.elim
theorem collect_ret (bx b c : Nat) (M : Ents UInt8) (hM : MapOk M c) (hlen : M.length ≤ 1000000) (w : World) (hbx : bx < w.heap.size) (hc : w.cell? ⟨bx, 0, none⟩ = some (.map (some b))) (hm : w.heap[b]? = some (mapObj byt M c)) :
 Rets Tryz.prog 79 [.func (.func 81) #[] #[ptr bx 0]] w fun u w' => ∃ xs : List UInt8, xs.Perm (M.map (·.1)) ∧ GivesRow 5 byt xs w u w' := by
 refine enter Tryz.func79 rfl (Nat.le_of_ble_eq_true rfl) ?_
 intro a h; rw [Tryz.ntmps79] at h
 have hF := Fd.wide; have H := St.begin w
 repeat refine cS0 ?_
 refine cR0 ?_
 refine sA0 hF h rfl rfl (by decide) ?_
 clear h; intro a h
 first | refine cEt0 ?_ | refine cE0 ?_
 repeat refine cS0 ?_
 refine cR0 ?_
 refine sM0 hF h rfl rfl (by decide) ?_
 clear h; intro a h
 refine i_call hF h rfl (appendSeq_ret bx b c M hM hlen _ hbx hc hm) rfl (by decide) ?_
 clear h; rintro v w ⟨xs, hxs, hg⟩ a h; obtain ⟨R, hr, H2⟩ := H.row hg; replace H := H2; clear H2
 refine sA0 hF h rfl rfl (by decide) ?_
 clear h; intro a h
 first | refine cEt0 ?_ | refine cE0 ?_
 refine c_ret ?_
 with_reducible repeat (first | refine xa0 ?_ | refine xb0 ?_ | refine xc0 ?_ | refine xd0 ?_ | refine xe0 (by decide) ?_ | refine xf0 ?_ | refine xg0 ?_ | refine xh0 ?_ | refine xi0 ?_)
 refine leave (fn := Tryz.f79) h Tryz.results79 (.tmp rfl (.nil)) ?_
 exact ⟨_, rfl, xs, hxs, GivesRow.of (L := []) hr rfl H⟩
theorem sort_ret {n0 : Nat} {w0 : World} {b n cap : Nat} {junk : List Value} {X : List (Nat × Obj)} {l : List UInt8} {w : World} (H : St n0 w0 ((b, rowB l junk) :: X) w) (hn : l.length = n) (hn2 : n ≤ 1000000) (h1 : 1 ≤ n) :
 Rets Tryz.prog 80 [sl b n cap] w fun _ w' => Mixed n0 w0 b junk X l w' := by
 have hbl : Lib.bitLen (n : Int).toNat ≤ 20 := Lib.bitLen_le _ 20 (by omega) (by simp only [Int.toNat_natCast]; omega)
 refine enter Tryz.func80 rfl (Nat.le_of_ble_eq_true rfl) ?_
 intro a h; rw [Tryz.ntmps80] at h
 have hF := Fd.wide
 repeat refine cS0 ?_
 refine cR0 ?_
 refine sM0 hF h rfl rfl (by decide) ?_
 clear h; intro a h
 (first | (refine i_len hF h rfl rfl (by decide) ?_) | (refine i_lenS hF h rfl rfl (by decide) ?_))
 clear h; intro a h
 refine sA0 hF h rfl rfl (by decide) ?_
 clear h; intro a h
 first | refine cEt0 ?_ | refine cE0 ?_
 repeat refine cS0 ?_
 refine cR0 ?_
 refine sM0 hF h rfl rfl (by decide) ?_
 clear h; intro a h
 refine sM0 hF h rfl rfl (by decide) ?_
 clear h; intro a h
 refine sM0 hF h rfl rfl (by decide) ?_
 clear h; intro a h
 refine i_conv hF h rfl rfl (wrapTo _ _ (by simp only [IntKind.min, IntKind.signed, IntKind.bits, Bool.false_eq_true, if_false]; omega) (by simp only [IntKind.max, IntKind.signed, IntKind.bits, Bool.false_eq_true, if_false]; omega)) (by decide) ?_
 clear h; intro a h
 refine i_call hF h rfl (blen_ret _ (by omega) (by omega) _) rfl (by decide) ?_
 clear h; rintro _ w ⟨rfl, hb⟩ a h; replace H := H.call hb; clear hb
 refine i_call hF h rfl (pdq_ret hn2 n H hn 0 n _ (by omega) (by omega) (by omega) (by omega)) rfl (by decide) ?_
 clear h H; rintro _ w ⟨l2, hp2, H⟩ a h
 refine cE0 ?_
 refine leaveN (fn := Tryz.f80) h Tryz.results80 .nil ?_
 exact ⟨_, rfl, l2, hp2, H⟩
theorem sorted_ret (bx b c : Nat) (M : Ents UInt8) (hM : MapOk M c) (hlen : M.length ≤ 1000000) (hpos : 1 ≤ M.length) (w : World) (hbx : bx < w.heap.size) (hc : w.cell? ⟨bx, 0, none⟩ = some (.map (some b))) (hm : w.heap[b]? = some (mapObj byt M c)) :
 Rets Tryz.prog 62 [.func (.func 81) #[] #[ptr bx 0]] w fun u w' => ∃ xs : List UInt8, xs.Perm (M.map (·.1)) ∧ GivesRow 5 byt xs w u w' := by
 refine enter Tryz.func62 rfl (Nat.le_of_ble_eq_true rfl) ?_
 intro a h; rw [Tryz.ntmps62] at h
 have hF := Fd.wide; have H := St.begin w
 repeat refine cS0 ?_
 refine cR0 ?_
 refine sA0 hF h rfl rfl (by decide) ?_
 clear h; intro a h
 first | refine cEt0 ?_ | refine cE0 ?_
 repeat refine cS0 ?_
 refine cR0 ?_
 refine sM0 hF h rfl rfl (by decide) ?_
 clear h; intro a h
 refine i_call hF h rfl (collect_ret bx b c M hM hlen _ hbx hc hm) rfl (by decide) ?_
 clear h; rintro v w ⟨xs, hxs, hg⟩ a h; obtain ⟨R, hr, H2⟩ := H.row hg; replace H := H2; clear H2
 refine sA0 hF h rfl rfl (by decide) ?_
 clear h; intro a h
 first | refine cEt0 ?_ | refine cE0 ?_
 have hxl := hxs.length_eq
 rw [List.length_map] at hxl
 have hr2 := hr.2
 rcases hr2 with ⟨_, h0, _⟩ | ⟨bb, cap, junk, rfl, hcap, hcm, hjl, rfl⟩
 · omega
 · have H : St _ _ ((bb, rowB xs junk) :: []) w := H
   repeat refine cS0 ?_
   refine cR0 ?_
   refine sM0 hF h rfl rfl (by decide) ?_
   clear h; intro a h
   refine i_call hF h rfl (sort_ret H rfl (by omega) (by omega)) rfl (by decide) ?_
   clear h H; rintro _ w ⟨l2, hp2, H⟩ a h
   first | refine cEt0 ?_ | refine cE0 ?_
   repeat refine cS0 ?_
   refine cR0 ?_
   refine sM0 hF h rfl rfl (by decide) ?_
   clear h; intro a h
   refine sA0 hF h rfl rfl (by decide) ?_
   clear h; intro a h
   first | refine cEt0 ?_ | refine cE0 ?_
   refine c_ret ?_
   with_reducible repeat (first | refine xa0 ?_ | refine xb0 ?_ | refine xc0 ?_ | refine xd0 ?_ | refine xe0 (by decide) ?_ | refine xf0 ?_ | refine xg0 ?_ | refine xh0 ?_ | refine xi0 ?_)
   refine leave (fn := Tryz.f62) h Tryz.results62 (.tmp rfl (.nil)) ?_
   have hl2 := hp2.length_eq
   refine ⟨_, rfl, l2, hp2.trans hxs, GivesRow.of (n := xs.length) (R := [(bb, rowB l2 junk)]) (L := []) ⟨by simp [hl2], .inr ⟨bb, cap, junk, rfl, hcap, hcm, by simpa [hl2] using hjl, rfl⟩⟩ rfl H⟩
end Go.Proofs.YtjlmpghcjgbfjaaGreatDoor.Cw
namespace Go.Proofs.YtjlmpghcjgbfjaaGreatDoor.Cw
open Go Go.RowKit Go.Proofs Ex Cd
set_option maxRecDepth 100000
theorem such_ret (x : Info) (bn : Nat) (nm : List UInt8) (w : World) (hbn : bn < w.heap.size) (hc : w.cell? ⟨bn, 0, none⟩ = some (str nm)) :
 Rets Tryz.prog 42 [valI x, ptr bn 0] w fun v w' => v = .bool (x.1 == nm) ∧ Below w.heap.size w w' := by
 refine enter Tryz.func42 rfl (Nat.le_of_ble_eq_true rfl) ?_
 intro a h; rw [Tryz.ntmps42] at h
 have hF := Fd.wide; have H := St.begin w
 repeat refine cS0 ?_
 refine cR0 ?_
 have h : Fr 8 [] (Ex.start 0 [.agg (cellsI x).toArray, ptr bn 0]) a := h
 refine i_boxA hF h H rfl rfl (by decide) ?_
 clear h H; intro a w b2 _ h H
 refine sA0 hF h rfl rfl (by decide) ?_
 clear h; intro a h
 refine cEt0 ?_
 repeat refine cS0 ?_
 refine cR0 ?_
 refine iFa0 hF h rfl rfl rfl (by decide) ?_
 clear h; intro a h; try simp only [Nat.reduceAdd] at h
 refine iL0 hF h H rfl rfl (by repeat (first | exact mh1 | apply mt1 | apply ma1)) (by exact rfl) (by decide) ?_
 clear h; intro a h
 refine i_loadW hF h rfl rfl ((H.below.cell (p := ⟨bn, 0, none⟩) hbn).trans hc) (by decide) ?_
 clear h; intro a h
 refine i_eqS hF h rfl rfl rfl rfl (by decide) ?_
 clear h; intro a h
 refine sA0 hF h rfl rfl (by decide) ?_
 clear h; intro a h
 first | refine cEt0 ?_ | refine cE0 ?_
 refine c_ret ?_
 with_reducible repeat (first | refine xa0 ?_ | refine xb0 ?_ | refine xc0 ?_ | refine xd0 ?_ | refine xe0 (by decide) ?_ | refine xf0 ?_ | refine xg0 ?_ | refine xh0 ?_ | refine xi0 ?_)
 refine leave (fn := Tryz.f42) h Tryz.results42 (.tmp rfl (.nil)) ?_
 exact ⟨_, rfl, rfl, H.done⟩
theorem Tab.keys {M : Ents UInt8} {c : Nat} (hT : Tab (fun op => (info op).isSome = true) M c) (k : UInt8) : k ∈ M.map (·.1) ↔ (info k.toNat).isSome = true := by
 have hg : mget M k = none ↔ ¬ k ∈ M.map (·.1) := by
  unfold mget
  rw [Option.map_eq_none_iff, List.find?_eq_none]
  constructor
  · intro h hk
    obtain ⟨x, hx, e⟩ := List.mem_map.1 hk
    exact h x hx (by simpa using e)
  · intro h x hx e
    exact h (List.mem_map.2 ⟨x, hx, by simpa using e⟩)
 by_cases hi : (info k.toNat).isSome = true
 · refine ⟨fun _ => hi, fun _ => ?_⟩
   have := (hT.2 k).1 hi
   by_cases hk : k ∈ M.map (·.1)
   · exact hk
   · rw [hg.2 hk] at this
     obtain ⟨y, hy⟩ := Option.isSome_iff_exists.1 hi
     rw [hy] at this
     cases this
 · exact ⟨fun hk => absurd ((hT.2 k).2 hi) (fun e => hg.1 e hk), fun h => absurd h hi⟩
theorem zero42 : ∀ z : Value, zeroOf Tryz.prog 42 = some z → z = .agg (cellsI noneI).toArray := by
 intro z hz
 have : zeroOf Tryz.prog 42 = some (.agg (cellsI noneI).toArray) := by kernel_rfl
 rw [this] at hz
 cases hz
 rfl
theorem named_of (nm : List UInt8) (k : Nat) (x : Info) (hk : k < 256) (hx : info k = some x) (e : x.1 = nm) : named nm = some k := by rw [← e]; exact named_known k x hk hx
theorem named_none (nm : List UInt8) (h : ∀ k x, k < 256 → info k = some x → x.1 ≠ nm) : named nm = none := by
 cases hn : named nm with
 | none => rfl
 | some op =>
  obtain ⟨h1, x, h2, h3⟩ := named_info nm op hn
  exact absurd h3 (h op x h1 h2)
def namedV (nm : List UInt8) : Value := .tuple #[byt (UInt8.ofNat ((named nm).getD 0)), .bool (named nm).isSome]
theorem found_ret (b c bn : Nat) (M : Ents UInt8) (nm : List UInt8) (hT : Tab (fun op => (info op).isSome = true) M c) (hlen : M.length ≤ 1000000) (hpos : 1 ≤ M.length) (w : World) (hm : w.heap[b]? = some (mapObj byt M c)) (hbn : bn < w.heap.size) (hc : w.cell? ⟨bn, 0, none⟩ = some (str nm)) :
 Rets Tryz.prog 41 [.map (some b), .func (.func 42) #[] #[ptr bn 0]] w fun v w' => v = namedV nm ∧ Below w.heap.size w w' := by
 have hbs := lt_of_heap hm
 refine enter Tryz.func41 rfl (Nat.le_of_ble_eq_true rfl) ?_
 intro a h; rw [Tryz.ntmps41] at h
 have hF := Fd.wide; have H := St.begin w
 repeat refine cS0 ?_
 refine cR0 ?_
 refine sA0 hF h rfl rfl (by decide) ?_
 clear h; intro a h
 refine sA0 hF h rfl rfl (by decide) ?_
 clear h; intro a h
 first | refine cEt0 ?_ | refine cE0 ?_
 repeat refine cS0 ?_
 refine cR0 ?_
 refine sM0 hF h rfl rfl (by decide) ?_
 clear h; intro a h
 refine i_call hF h rfl (keysF_ret _ rfl _) rfl (by decide) ?_
 clear h; rintro _ w ⟨bx, rfl, hbx, hmx, hb⟩ a h; replace H := H.callNew hb hbx hmx; clear hb hbx hmx
 refine i_call hF h rfl (sorted_ret bx b c M hT.1 hlen hpos _ (lt_of_heap (H.mem (List.Mem.head _))) (by rw [cell_of (H.mem (List.Mem.head _))]; rfl) ((H.below.block b hbs).trans hm)) rfl (by decide) ?_
 clear h; rintro v w ⟨xs, hxs, hg⟩ a h; obtain ⟨R, hr, H2⟩ := H.row hg; replace H := H2; clear H2
 have hE := (ES.row (l := xs) hr H).1
 refine i_lenB hF h rfl rfl hE (by decide) ?_
 clear h; intro a h
 refine sM0 hF h rfl rfl (by decide) ?_
 clear h; intro a h
 first | refine cEt0 ?_ | refine cE0 ?_
 repeat refine cS0 ?_
 refine c_block ?_
 have hxl := hxs.length_eq
 rw [List.length_map] at hxl
 refine c_loopN (fun q a' w' => ∃ j, q = xs.length - j ∧ j ≤ xs.length ∧ (∀ i k, i < j → xs[i]? = some k → ∀ x, info k.toNat = some x → x.1 ≠ nm) ∧ Fr 23 [] [(12, int (j : Nat)), (11, int xs.length), (10, v), (0, .map (some b)), (1, .func (.func 42) #[] #[ptr bn 0])] a' ∧ St _ _ R w') xs.length ⟨0, rfl, by omega, fun i k hi => absurd hi (by omega), (h.sub (by repeat (first | exact trivial | refine ⟨rfl, ?_⟩))), H.sub (List.sublist_append_left _ _)⟩ ?_
 clear h H hE
 rintro q a w ⟨j, rfl, hj, hno, h, H⟩
 have hE := (ES.row (l := xs) (L := []) hr (by rw [List.append_nil]; exact H)).1
 by_cases hj2 : j < xs.length
 · repeat refine cS0 ?_
   refine cR0 ?_
   (first | (refine iC0 hF h rfl rfl rfl (i_lss_t (by omega)) (by decide) ?_) | (refine iC0 hF h rfl rfl rfl (i_lss_f (by omega)) (by decide) ?_))
   clear h; intro a h
   first | refine cEt0 ?_ | refine cE0 ?_
   repeat refine cS0 ?_
   refine c_condT h rfl ?_
   first | refine cKt0 ?_ | refine cK0 ?_
   obtain ⟨k, hk⟩ : ∃ k, xs[j]? = some k := ⟨_, List.getElem?_eq_getElem hj2⟩
   have hkm : k ∈ M.map (·.1) := (hxs.mem_iff).1 (List.mem_of_getElem? hk)
   obtain ⟨x, hx⟩ := Option.isSome_iff_exists.1 ((hT.keys k).1 hkm)
   have hget : mget M k = some (valI x) := by rw [(hT.2 k).1 (show (info k.toNat).isSome = true by rw [hx]; rfl), hx]; rfl
   repeat refine cS0 ?_
   refine c_block ?_
   repeat refine cS0 ?_
   refine cR0 ?_
   refine i_idxB hF h rfl rfl hE rfl hk (by decide) ?_
   clear h; intro be bo a hbe h
   refine i_loadW hF h rfl rfl hbe (by decide) ?_
   clear h; intro a h
   refine sA0 hF h rfl rfl (by decide) ?_
   clear h; intro a h
   first | refine cEt0 ?_ | refine cE0 ?_
   repeat refine cS0 ?_
   refine cR0 ?_
   refine sM0 hF h rfl rfl (by decide) ?_
   clear h; intro a h
   refine sM0 hF h rfl rfl (by decide) ?_
   clear h; intro a h
   refine sM0 hF h rfl rfl (by decide) ?_
   clear h; intro a h
   refine i_lookupW (enc := byt) (zero := .agg (cellsI noneI).toArray) hF h rfl (.inr ⟨_, rfl⟩) rfl rfl ((H.below.block b hbs).trans hm) (by decide) zero42 ?_
   clear h; intro a h
   simp only [hget, Option.getD_some] at h
   refine j_callV hF h rfl rfl (such_ret x bn nm _ (Nat.lt_of_lt_of_le hbn H.below.size) ((H.below.cell (p := ⟨bn, 0, none⟩) hbn).trans hc)) rfl rfl (by decide) ?_
   clear h; rintro _ w ⟨rfl, hb⟩ a h; replace H := H.call hb; clear hb
   refine cEt0 ?_
   by_cases he : x.1 = nm
   · rw [show (x.1 == nm) = true from beq_iff_eq.2 he] at h
     repeat refine cS0 ?_
     refine c_condT h rfl ?_
     repeat refine cS0 ?_
     refine cR0 ?_
     refine sM0 hF h rfl rfl (by decide) ?_
     clear h; intro a h
     refine sA0 hF h rfl rfl (by decide) ?_
     clear h; intro a h
     refine sA0 hF h rfl rfl (by decide) ?_
     clear h; intro a h
     first | refine cEt0 ?_ | refine cE0 ?_
     refine c_ret ?_
     with_reducible repeat (first | refine xa0 ?_ | refine xb0 ?_ | refine xc0 ?_ | refine xd0 ?_ | refine xe0 (by decide) ?_ | refine xf0 ?_ | refine xg0 ?_ | refine xh0 ?_ | refine xi0 ?_)
     refine leave (fn := Tryz.f41) h Tryz.results41 (.tmp rfl (.tmp rfl (.nil))) ?_
     have hnm := named_of nm k.toNat x k.toNat_lt hx he
     exact ⟨_, rfl, by simp [namedV, hnm, tupleOf], H.done⟩
   · rw [show (x.1 == nm) = false from beq_eq_false_iff_ne.2 he] at h
     repeat refine cS0 ?_
     refine c_condF h rfl ?_
     first | refine cKt0 ?_ | refine cK0 ?_
     with_reducible repeat (first | refine xa0 ?_ | refine xb0 ?_ | refine xc0 ?_ | refine xd0 ?_ | refine xe0 (by decide) ?_ | refine xf0 ?_ | refine xg0 ?_ | refine xh0 ?_ | refine xi0 ?_)
     repeat refine cS0 ?_
     refine cR0 ?_
     refine i_ar64 hF h rfl rfl rfl rfl (by omega) (by omega) (by decide) ?_
     clear h; intro a h
     refine sM0 hF h rfl rfl (by decide) ?_
     clear h; intro a h
     refine cE0 ?_
     refine ⟨xs.length - (j + 1), by omega, j + 1, rfl, by omega, ?_, (h.sub (by repeat (first | exact trivial | refine ⟨rfl, ?_⟩))), H⟩
     intro i k' hi hk' x' hx'
     by_cases hij : i = j
     · subst hij
       rw [hk] at hk'
       cases hk'
       rw [hx] at hx'
       cases hx'
       exact he
     · exact hno i k' (by omega) hk' x' hx'
 · repeat refine cS0 ?_
   refine cR0 ?_
   (first | (refine iC0 hF h rfl rfl rfl (i_lss_t (by omega)) (by decide) ?_) | (refine iC0 hF h rfl rfl rfl (i_lss_f (by omega)) (by decide) ?_))
   clear h; intro a h
   first | refine cEt0 ?_ | refine cE0 ?_
   repeat refine cS0 ?_
   refine c_condF h rfl ?_
   refine c_exit ?_
   with_reducible repeat (first | refine xa0 ?_ | refine xb0 ?_ | refine xc0 ?_ | refine xd0 ?_ | refine xe0 (by decide) ?_ | refine xf0 ?_ | refine xg0 ?_ | refine xh0 ?_ | refine xi0 ?_)
   repeat refine cS0 ?_
   refine cR0 ?_
   refine sA0 hF h rfl rfl (by decide) ?_
   clear h; intro a h
   refine sA0 hF h rfl rfl (by decide) ?_
   clear h; intro a h
   first | refine cEt0 ?_ | refine cE0 ?_
   refine c_ret ?_
   with_reducible repeat (first | refine xa0 ?_ | refine xb0 ?_ | refine xc0 ?_ | refine xd0 ?_ | refine xe0 (by decide) ?_ | refine xf0 ?_ | refine xg0 ?_ | refine xh0 ?_ | refine xi0 ?_)
   refine leave (fn := Tryz.f41) h Tryz.results41 (.tmp rfl (.tmp rfl (.nil))) ?_
   have hnm : named nm = none := by
    refine named_none nm fun k x hk hx => ?_
    have e : (UInt8.ofNat k).toNat = k := by simp; omega
    have hmem : UInt8.ofNat k ∈ xs := (hxs.mem_iff).2 ((hT.keys _).2 (show (info (UInt8.ofNat k).toNat).isSome = true by rw [e, hx]; rfl))
    obtain ⟨i, hi, e2⟩ := List.getElem_of_mem hmem
    exact hno i (UInt8.ofNat k) (by omega) (by rw [List.getElem?_eq_getElem hi, e2]) x (by rw [e]; exact hx)
   exact ⟨_, rfl, by simp [namedV, hnm, tupleOf], H.done⟩
theorem Tab.len {M : Ents UInt8} {c : Nat} (hT : Tab (fun op => (info op).isSome = true) M c) : 1 ≤ M.length ∧ M.length ≤ 256 := by
 constructor
 · have : (0 : UInt8) ∈ M.map (·.1) := (hT.keys 0).2 (by decide +kernel)
   cases M with
   | nil => cases this
   | cons x M => simp
 · have h1 : (M.map (·.1)).Nodup := hT.1.key
   have := List.Nodup.length_le_of_subset (l₂ := (List.range 256).map UInt8.ofNat) h1 (fun k _ => List.mem_map.2 ⟨k.toNat, List.mem_range.2 k.toNat_lt, by simp⟩)
   simpa using this
theorem named_ret (nm : List UInt8) (w : World) : Rets Tryz.prog 17 [str nm] w fun v w' => v = namedV nm ∧ Below w.heap.size w w' := by
 refine enter Tryz.func17 rfl (Nat.le_of_ble_eq_true rfl) ?_
 intro a h; rw [Tryz.ntmps17] at h
 have hF := Fd.wide; have H := St.begin w
 repeat refine cS0 ?_
 refine cR0 ?_
 refine i_box1 hF h H rfl rfl rfl (by decide) ?_
 clear h H; intro a w b1 _ h H
 refine sA0 hF h rfl rfl (by decide) ?_
 clear h; intro a h
 refine sA0 hF h rfl rfl (by decide) ?_
 clear h; intro a h
 first | refine cEt0 ?_ | refine cE0 ?_
 repeat refine cS0 ?_
 refine cR0 ?_
 refine i_call hF h rfl (table_ret _) rfl (by decide) ?_
 clear h; rintro _ w ⟨bm, M, c, rfl, hbm, hmm, hT, hb⟩ a h; replace H := H.callNew hb hbm hmm; clear hb hbm hmm
 refine i_makeFunc hF h rfl rfl (by decide) ?_
 clear h; intro a h
 have hTl := hT.len
 have hb1 : w.heap[b1]? = some (Obj.cells [str nm].toArray 9 (0, 0)) := H.mem (by repeat (first | exact mh1 | apply mt1 | apply ma1))
 refine i_call hF h rfl (found_ret bm c b1 M nm hT (by omega) hTl.1 _ (H.mem (by repeat (first | exact mh1 | apply mt1 | apply ma1))) (lt_of_heap hb1) (by rw [cell_of hb1]; rfl)) rfl (by decide) ?_
 clear h; rintro _ w ⟨rfl, hb⟩ a h; replace H := H.call hb; clear hb
 refine iX0 hF h rfl rfl rfl (by decide) ?_
 clear h; intro a h
 refine iX0 hF h rfl rfl rfl (by decide) ?_
 clear h; intro a h
 refine sA0 hF h rfl rfl (by decide) ?_
 clear h; intro a h
 refine sA0 hF h rfl rfl (by decide) ?_
 clear h; intro a h
 first | refine cEt0 ?_ | refine cE0 ?_
 refine c_ret ?_
 with_reducible repeat (first | refine xa0 ?_ | refine xb0 ?_ | refine xc0 ?_ | refine xd0 ?_ | refine xe0 (by decide) ?_ | refine xf0 ?_ | refine xg0 ?_ | refine xh0 ?_ | refine xi0 ?_)
 refine leave (fn := Tryz.f17) h Tryz.results17 (.tmp rfl (.tmp rfl (.nil))) ?_
 exact ⟨_, rfl, rfl, H.done⟩
end Go.Proofs.YtjlmpghcjgbfjaaGreatDoor.Cw
namespace Go.Proofs.YtjlmpghcjgbfjaaGreatDoor.Ex
open Go Go.RowKit
section
variable {F : Fence} {n : Nat} {P : Program} {ops : Array Oper} {Q : Exit → Act → World → Prop} {a : Act} {w : World} {rest : List Oper}
variable {N : Nat} {ds : List Deferred} {T : List (Nat × Value)} {n0 : Nat} {w0 : World} {L L' : List (Nat × Obj)}
variable {ty : TypeId} {ps : String} {af : Array Edge} {g : Option (Nat × Bool)} {d : Nat}
theorem i_sliceAtCap (hF : Fd F) (h : Fr N ds T a) (hg : guardOf T ops g = some true) {t e sz : TypeId} [hs : SliceTy P t e] [hz : SizeIs P e sz] {x : Operand} {lo hi : Option Operand} {r : Option Addr} {len cap : Nat} (hx : ev T x = some (.slice r len cap))
 (hi' : bound T lo 0 cap) (hj' : bound T hi len cap) (hd : d < N)
 (K : ∀ a', Fr N ds ((d, .slice r 0 0) :: T) a' → wpListIn F n P ops Q rest a' w) :
 wpListIn F n P ops Q (⟨some d, .slice t x lo hi none, ty, ps, af, g⟩ :: rest) a w := by
 refine step hF h hg (by simp) (v := .slice r 0 0) (w' := w) ?_ (K _ (h.put hd _))
 have hc := Nat.le_refl cap
 have hc0 : ∀ k c, (Instr.sliceBound (.int k 0) 0 c).run P w = .ok 0 w := fun k c => run_bound (P := P) (k := k) (j := 0) (m := 0) (Nat.le_refl 0) c w
 cases lo with
 | none =>
  cases hi'
  cases hi with
  | none =>
   cases hj'
   simp [execOp, Instr.sliceAt, run_underlying hs.out, h.eval hx, Instr.slice, Instr.sliceBounds, run_sizeOf hz.out]
  | some y =>
   obtain ⟨k, hy⟩ := hj'
   simp [execOp, Instr.sliceAt, run_underlying hs.out, h.eval hx, h.eval hy, Instr.slice, Instr.sliceBounds, hc0, run_sizeOf hz.out]
 | some z =>
  obtain ⟨k', hz'⟩ := hi'
  cases hi with
  | none =>
   cases hj'
   simp [execOp, Instr.sliceAt, run_underlying hs.out, h.eval hx, h.eval hz', Instr.slice, Instr.sliceBounds, run_bound hc, run_sizeOf hz.out]
  | some y =>
   obtain ⟨k, hy⟩ := hj'
   simp [execOp, Instr.sliceAt, run_underlying hs.out, h.eval hx, h.eval hy, h.eval hz', Instr.slice, Instr.sliceBounds, run_bound hc, run_sizeOf hz.out]
theorem i_sliceE (hF : Fd F) (h : Fr N ds T a) (hg : guardOf T ops g = some true) {t e : TypeId} [hs : SliceTy P t e] [hz : SizeIs P e 1] {x : Operand} {lo hi : Option Operand} {v : Value} {α : Type} {enc : α → Value} {l : List α} {i j : Nat} (hx : ev T x = some v) (hB : ES enc w v l)
 (hi' : bound T lo 0 i) (hj' : bound T hi l.length j) (hij : i ≤ j) (hj : j ≤ l.length) (hd : d < N)
 (K : ∀ v' a', ES enc w v' ((l.take j).drop i) → Fr N ds ((d, v') :: T) a' → wpListIn F n P ops Q rest a' w) :
 wpListIn F n P ops Q (⟨some d, .slice t x lo hi none, ty, ps, af, g⟩ :: rest) a w := by
 obtain ⟨p, cap, rfl, hcap, hp⟩ := hB
 by_cases hc : i = cap
 · have hjc : j = cap := by omega
   subst hc
   subst hjc
   have hl : (l.take j).drop j = [] := by simp
   refine i_sliceAtCap hF h hg hx hi' hj' hd fun a' ha => K _ a' ?_ ha
   rw [hl]
   rcases hp with ⟨rfl, _⟩ | ⟨b, off, rfl, hb, _⟩
   · exact ⟨_, _, rfl, Nat.le_refl _, .inl ⟨rfl, rfl⟩⟩
   · exact ⟨_, _, rfl, Nat.le_refl _, .inr ⟨b, off, rfl, hb, fun j x hx => by simp at hx⟩⟩
 · have hlt : i < cap := by omega
   refine i_slice hF h hg hx hi' hj' hij (by omega) hd (fun a' ha => K _ a' ?_ ha) hlt
   have hno : ¬ (cap - i = 0 ∧ i = cap) := by omega
   rw [if_neg hno]
   have hlen : ((l.take j).drop i).length = j - i := by simp; omega
   rcases hp with ⟨rfl, rfl⟩ | ⟨b, off, rfl, hb, hcell⟩
   · have : j - i = 0 := by simp at hj; omega
     refine ⟨none, cap - i, by rw [hlen]; rfl, by omega, .inl ⟨rfl, by simp⟩⟩
   · refine ⟨some ⟨b, off + i * 1, none⟩, cap - i, by rw [hlen]; simp [add_mk], by omega, .inr ⟨b, off + i * 1, rfl, hb, fun k x hk => ?_⟩⟩
     have h1 : l[i + k]? = some x := by
      rw [List.getElem?_drop, List.getElem?_take] at hk
      split at hk
      · exact hk
      · cases hk
     have := hcell (i + k) x h1
     rw [← this]
     congr 2; omega
/-- a made row of bytes -/
theorem i_makeB (hF : Fd F) (h : Fr N ds T a) (H : St n0 w0 L w) (hg : guardOf T ops g = some true) {t : TypeId} [hs : SliceTy P t 5] {bytes : Nat} (hi : (P.info? 5).map (fun i => (i.zero, i.size, i.bytes)) = some (some (.int .u8 0), 1, bytes)) {x : Operand} {k : Nat} (hx : ev T x = some (int k)) (hk : k ≤ 16777216) (hb : bytes ≤ 8) (hd : d < N)
 (K : ∀ a' w' b, w.heap.size ≤ b → Fr N ds ((d, sl b k k) :: T) a' → St n0 w0 ((b, rowB (List.replicate k 0) []) :: L) w' → wpListIn F n P ops Q rest a' w') :
 wpListIn F n P ops Q (⟨some d, .makeSlice t x x, ty, ps, af, g⟩ :: rest) a w := by
 cases hq : P.info? 5 with
 | none => rw [hq] at hi; cases hi
 | some i =>
  rw [hq] at hi
  simp only [Option.map_some, Option.some.injEq, Prod.mk.injEq] at hi
  obtain ⟨h1, h2, h3⟩ := hi
  have hbk : bytes * k ≤ 8 * 16777216 := Nat.mul_le_mul hb hk
  have hrun := run_makeSlice (P := P) (w := w) t 5 i (.int .u8 0) hs.out hq h1 .i64 .i64 k k (by omega) (Int.le_refl _) (by rw [h2]; simpa using hk) (by rw [h3]; omega) (by omega)
  rw [h2] at hrun
  simp only [Int.toNat_natCast, Nat.mul_one] at hrun
  have hcells : madeCells (Value.cells (.int .u8 0)) k = ((List.replicate k (0 : UInt8)).map byt ++ []).toArray := by
   apply Array.ext'
   simp [madeCells, Value.cells, byt]
   apply List.ext_getElem
   · simp
   · intro i h1 h2; simp [Nat.mod_one]
  rw [hcells] at hrun
  exact step hF h hg (by simp) (v := sl w.heap.size k k) (by simp [execOp, h.eval hx, hrun, rowB]) (K _ _ _ (Nat.le_refl _) (h.put hd _) (H.alloc _))
/-- a copy into it -/
theorem i_copyB (hF : Fd F) (h : Fr N ds T a) (H : St n0 w0 L w) (hg : guardOf T ops g = some true) {t t' : TypeId} [hs : SliceTy P t 5] [hz : SizeIs P 5 1] {x y : Operand} {b cap : Nat} {l s : List UInt8} {v : Value} (hx : ev T x = some (sl b l.length cap)) (hy : ev T y = some v) (hB : ES byt w v s)
 (hu : Upd b (rowB l []) (rowB (s.take l.length ++ l.drop s.length) []) L L') (hd : d < N)
 (K : ∀ a' w', Fr N ds ((d, int (min s.length l.length : Nat)) :: T) a' → St n0 w0 L' w' → wpListIn F n P ops Q rest a' w') :
 wpListIn F n P ops Q (⟨some d, .call { callee := .builtin .copy, args := #[x, y], argTypes := #[t, t'] }, ty, ps, af, g⟩ :: rest) a w := by
 have hm := H.mem hu.mem.1
 have hsz : (P.info? 5).map (·.size) = some 1 := by
  have := hz.out
  unfold sizeIs at this
  cases hq : P.info? 5 with
  | none => rw [hq] at this; cases this
  | some i => rw [hq] at this; simpa using this
 obtain ⟨p, scap, rfl, hcap, hp⟩ := hB
 rcases hp with ⟨rfl, rfl⟩ | ⟨b', off, rfl, hb', hcell⟩
 · have hrun := run_copy_none (P := P) w t t' ty 5 (some ⟨b, 0, none⟩) none l.length cap 0 scap hs.out hsz (by simp)
   have hsame : rowB (([] : List UInt8).take l.length ++ l.drop ([] : List UInt8).length) [] = rowB l [] := by simp
   rw [hsame] at hu
   have hLL : L' = L := by
    clear hm H K
    induction hu with
    | here => rfl
    | there _ ih => rw [ih]
   subst hLL
   exact step hF h hg (by simp) (v := int 0) (w' := w) (by simp [execOp, resolve, invoke, builtin, h.eval hx, h.eval hy, hrun, goInt]) (by simpa using K _ w (h.put hd _) H)
 · have hlen : ((s.take l.length).map byt).length = Nat.min s.length l.length := by simp [Nat.min_comm]
   have hrun := run_copy_row (P := P) w t t' ty 5 b 0 l.length cap ⟨b', off, none⟩ s.length scap _ 5 ((s.take l.length).map byt) hs.out hsz hm hlen
    (fun j u hj => by
     rw [add_mk]
     rw [List.getElem?_map, List.getElem?_take] at hj
     split at hj
     · cases hsj : s[j]? with
       | none => rw [hsj] at hj; cases hj
       | some c => rw [hsj] at hj; cases hj; exact hcell j c hsj
     · cases hj) (by simp; omega) (fun u hu => by obtain ⟨c, _, rfl⟩ := List.mem_map.1 hu; rfl)
   have hrow : ((l.map byt ++ ([] : List Value)).toArray.toList.take 0 ++ (s.take l.length).map byt ++ (l.map byt ++ ([] : List Value)).toArray.toList.drop (0 + ((s.take l.length).map byt).length)).toArray = ((s.take l.length ++ l.drop s.length).map byt ++ ([] : List Value)).toArray := by
    congr 1
    simp only [List.take_zero, List.nil_append, List.append_nil, List.map_append, Nat.zero_add, List.length_map, List.length_take]
    congr 1
    rw [List.map_drop, List.drop_eq_drop_iff]
    simp; omega
   rw [hrow, show ((s.take l.length).map byt).length = min s.length l.length from hlen] at hrun
   obtain ⟨row, hrw⟩ : ∃ row, row = ((s.take l.length ++ l.drop s.length).map byt ++ ([] : List Value)).toArray := ⟨_, rfl⟩
   rw [← hrw] at hrun
   refine step hF h hg (by simp) (v := int (min s.length l.length : Nat)) (w' := w.setRow b row) (by simp only [execOp, resolve, invoke, builtin, List.map_toArray, List.map_cons, List.map_nil, h.eval hx, h.eval hy, pure_bind, Sem.run_bind, hrun, Result.andThen_ok, Sem.run_pure, goInt]) (K _ _ (h.put hd _) (H.turn (b := b) hu rfl rfl rfl (by simp) ?_ (fun k hk => setRow_other w b k _ hk)))
   rw [setRow_heap w b _ _ _ _ hm, hrw]
   rfl
end
end Go.Proofs.YtjlmpghcjgbfjaaGreatDoor.Ex
namespace Go.Proofs.YtjlmpghcjgbfjaaGreatDoor.Cw
open Go Go.RowKit Go.Proofs Ex Cd
set_option maxRecDepth 100000
theorem behind_ret (v : Value) (c : List UInt8) (k : Nat) (x : UInt8) (hc : c.length ≤ 1000000) (w : World) (hB : BS w v c) (hk : c[k]? = some x) :
 Rets Tryz.prog 25 [v, int k] w fun u w' => GivesRow 5 byt (pad (sz x.toNat) (c.drop (k + 1))) w u w' := by
 have hs32 := sz_le x.toNat
 have hkl : k < c.length := (List.getElem?_eq_some_iff.1 hk).1
 refine enter Tryz.func25 rfl (Nat.le_of_ble_eq_true rfl) ?_
 intro a h; rw [Tryz.ntmps25] at h
 have hF := Fd.wide; have H := St.begin w
 repeat refine cS0 ?_
 refine cR0 ?_
 refine sA0 hF h rfl rfl (by decide) ?_
 clear h; intro a h
 first | refine cEt0 ?_ | refine cE0 ?_
 repeat refine cS0 ?_
 refine cR0 ?_
 refine sM0 hF h rfl rfl (by decide) ?_
 clear h; intro a h
 refine sM0 hF h rfl rfl (by decide) ?_
 clear h; intro a h
 refine i_idxB hF h rfl rfl (hB.at H (Nat.le_refl _)) rfl hk (by decide) ?_
 clear h; intro be bo a hbe h
 refine i_loadW hF h rfl rfl hbe (by decide) ?_
 clear h; intro a h
 refine i_call hF h rfl (size_ret _ _) rfl (by decide) ?_
 clear h; rintro _ w ⟨rfl, hb⟩ a h; replace H := H.call hb; clear hb
 refine i_makeB (bytes := 1) hF h H rfl (by kernel_rfl) rfl (by omega) (by omega) (by decide) ?_
 clear h H; intro a w b11 _ h H
 refine sA0 hF h rfl rfl (by decide) ?_
 clear h; intro a h
 first | refine cEt0 ?_ | refine cE0 ?_
 repeat refine cS0 ?_
 refine cR0 ?_
 refine sM0 hF h rfl rfl (by decide) ?_
 clear h; intro a h
 refine sM0 hF h rfl rfl (by decide) ?_
 clear h; intro a h
 refine sM0 hF h rfl rfl (by decide) ?_
 clear h; intro a h
 refine i_ar64 hF h rfl rfl rfl rfl (by omega) (by omega) (by decide) ?_
 clear h; intro a h
 refine i_sliceE (i := k + 1) (j := c.length) hF h rfl rfl (hB.at H (Nat.le_refl _)) ⟨_, rfl⟩ rfl (by omega) (Nat.le_refl _) (by decide) ?_
 clear h; intro vs a hs h
 refine i_copyB (l := List.replicate (sz x.toNat) 0) hF h H rfl (by rw [List.length_replicate]; rfl) rfl hs (by repeat (first | exact Upd.here | apply Upd.there | apply Upd.app)) (by decide) ?_
 clear h H; intro a w h H
 first | refine cEt0 ?_ | refine cE0 ?_
 repeat refine cS0 ?_
 refine cR0 ?_
 refine sM0 hF h rfl rfl (by decide) ?_
 clear h; intro a h
 refine sA0 hF h rfl rfl (by decide) ?_
 clear h; intro a h
 first | refine cEt0 ?_ | refine cE0 ?_
 refine c_ret ?_
 with_reducible repeat (first | refine xa0 ?_ | refine xb0 ?_ | refine xc0 ?_ | refine xd0 ?_ | refine xe0 (by decide) ?_ | refine xf0 ?_ | refine xg0 ?_ | refine xh0 ?_ | refine xi0 ?_)
 refine leave (fn := Tryz.f25) h Tryz.results25 (.tmp rfl (.nil)) ?_
 have hpad : (c.take c.length).drop (k + 1) = c.drop (k + 1) := by simp
 rw [hpad] at H
 have hp2 : ((c.drop (k + 1)).take (List.replicate (sz x.toNat) (0 : UInt8)).length ++ (List.replicate (sz x.toNat) (0 : UInt8)).drop (c.drop (k + 1)).length) = pad (sz x.toNat) (c.drop (k + 1)) := by
  simp [pad]
 rw [hp2] at H
 have hpl := pad_length (sz x.toNat) (c.drop (k + 1))
 refine ⟨_, rfl, GivesRow.of (n := sz x.toNat) (R := [(b11, rowB (pad (sz x.toNat) (c.drop (k + 1))) [])]) (L := []) ⟨by simp [hpl], .inr ⟨b11, sz x.toNat, [], rfl, Nat.le_refl _, by unfold maxLen; omega, by simp [hpl], rfl⟩⟩ rfl H⟩
end Go.Proofs.YtjlmpghcjgbfjaaGreatDoor.Cw
namespace Go.Proofs.YtjlmpghcjgbfjaaGreatDoor.Ex
open Go Go.RowKit
section
variable {F : Fence} {n : Nat} {P : Program} {ops : Array Oper} {Q : Exit → Act → World → Prop} {a : Act} {w : World} {rest : List Oper}
variable {N : Nat} {ds : List Deferred} {T : List (Nat × Value)} {n0 : Nat} {w0 : World} {L L' : List (Nat × Obj)}
variable {ty : TypeId} {ps : String} {af : Array Edge} {g : Option (Nat × Bool)} {d : Nat}
theorem run_eq_nil {tp te : TypeId} (hp : P.underlying tp = some (.pointer te)) (p : Option Addr) : (binOp .eql tp (.pointer p) (.pointer none)).run P w = .ok (.bool p.isNone) w := by
 have h : ∀ d : Nat, (Op.equalIn (d + 1) tp (.pointer p) (.pointer none)).run P w = .ok p.isNone w := fun d => by
  cases p <;> simp [Op.equalIn, run_underlying hp]
 simp only [binOp]
 simp [Op.equal, Op.maxDepth, h 9999]
theorem i_eqNilP (hF : Fd F) (h : Fr N ds T a) (hg : guardOf T ops g = some true) {t t' te : TypeId} (hp : P.underlying t = some (.pointer te)) {x y : Operand} {p : Option Addr} (hx : ev T x = some (.pointer p)) (hy : ev T y = some (.pointer none)) (hd : d < N)
 (K : ∀ a', Fr N ds ((d, .bool p.isNone) :: T) a' → wpListIn F n P ops Q rest a' w) : wpListIn F n P ops Q (⟨some d, .binOp .eql t x y t', ty, ps, af, g⟩ :: rest) a w :=
 step hF h hg (by simp) (v := .bool p.isNone) (w' := w) (by simp [execOp, h.eval hx, h.eval hy, eqGuard_at_pointer, run_eq_nil hp]) (K _ (h.put hd _))
theorem i_neSame (hF : Fd F) (h : Fr N ds T a) (hg : guardOf T ops g = some true) {t t' te : TypeId} {j : TypeInfo} (hp : P.underlying t = some (.pointer te)) (hte : P.info? te = some j) {x y : Operand} {p : Addr} (hx : ev T x = some (.pointer (some p))) (hy : ev T y = some (.pointer (some p))) (hd : d < N)
 (K : ∀ a', Fr N ds ((d, .bool false) :: T) a' → wpListIn F n P ops Q rest a' w) : wpListIn F n P ops Q (⟨some d, .binOp .neq t x y t', ty, ps, af, g⟩ :: rest) a w :=
 step hF h hg (by simp) (v := .bool false) (w' := w) (by simp [execOp, h.eval hx, h.eval hy, eqGuard_at_pointer, Lib.run_neq_ptr_same w p hp hte]) (K _ (h.put hd _))
theorem i_convRun (hF : Fd F) (h : Fr N ds T a) (hg : guardOf T ops g = some true) {s t : TypeId} {x : Operand} {v u : Value} (hx : ev T x = some v) (hr : (convert s t v).run P w = .ok u w) (hd : d < N)
 (K : ∀ a', Fr N ds ((d, u) :: T) a' → wpListIn F n P ops Q rest a' w) : wpListIn F n P ops Q (⟨some d, .convert s t x, ty, ps, af, g⟩ :: rest) a w :=
 step hF h hg (by simp) (v := u) (w' := w) (by simp [execOp, h.eval hx, hr]) (K _ (h.put hd _))
theorem i_callExt (hF : Fd F) (h : Fr N ds T a) (hg : guardOf T ops g = some true) {f : FuncId} {x : Operand} {v u : Value} (hx : ev T x = some v) (hr : (callFunc f #[v]).run P w = .ok (.value u) w) {ats : Array TypeId} (hd : d < N)
 (K : ∀ a', Fr N ds ((d, u) :: T) a' → wpListIn F n P ops Q rest a' w) : wpListIn F n P ops Q (⟨some d, .call { callee := .value (.func f), args := #[x], argTypes := ats }, ty, ps, af, g⟩ :: rest) a w :=
 step hF h hg (by simp) (v := u) (w' := w) (by
  have ex := h.eval hx
  simp only [execOp, resolve, List.map_toArray, List.map_cons, List.map_nil, ex]
  simp [Act.eval, Deferred.ofValue, invoke, hr]) (K _ (h.put hd _))
theorem shape_of {b : Nat} {cs : Array Value} {E : TypeId} {fr : Nat × Nat} (h : w.heap[b]? = some (.cells cs E fr)) : w.shape? b = some (E, cs.size) := by
 simp [World.shape?, h]
theorem i_appendNilStr (hF : Fd F) (h : Fr N ds T a) (H : St n0 w0 L w) (hg : guardOf T ops g = some true) {e : TypeId} {bytes : Nat} {t u : TypeId} [hs : SliceTy P t e] [hu : StrTy P u] [he : Elem P e 1 bytes] {x y : Operand} {l : List UInt8} (hx : ev T x = some (.slice none 0 0)) (hy : ev T y = some (str l))
 (h0 : 0 < l.length) (h1 : l.length ≤ 1000000) (hb : bytes ≤ 8) (hd : d < N)
 (K : ∀ a' w' v' R', RowIs e 1 v' l.length (l.map byt) R' → St n0 w0 (R' ++ L) w' → Fr N ds ((d, v') :: T) a' → wpListIn F n P ops Q rest a' w') :
 wpListIn F n P ops Q (⟨some d, .call { callee := .builtin .append, args := #[x, y], argTypes := #[t, u] }, ty, ps, af, g⟩ :: rest) a w := by
 obtain ⟨i, z, hi, hz, hsz, hby, hzs, _⟩ := he.out
 have hlb : l.length * i.bytes ≤ 1000000 * 8 := Nat.mul_le_mul h1 (by rw [hby]; exact hb)
 have hsize : (⟨l.toArray⟩ : ByteArray).size = l.length := size_str l
 have hrun := run_append_nil_string (P := P) (w := w) t u ty e i z hs.out hu.out hi hz ⟨l.toArray⟩ (by rw [hsize]; exact h0) (by rw [hsize]; omega) (by rw [hsize]; omega)
 rw [hsize] at hrun
 have hge := grownCap_ge w l.length 0 e
 have hcells : ((⟨l.toArray⟩ : ByteArray).data.map (fun b => Value.int .u8 b.toNat) ++ Builtin.zeroCells z.cells (grownCap w l.length 0 e - l.length)) = (l.map byt ++ (Builtin.zeroCells z.cells (grownCap w l.length 0 e - l.length)).toList).toArray := by
  apply Array.ext'
  simp []
 rw [hcells] at hrun
 have hjl : (Builtin.zeroCells z.cells (grownCap w l.length 0 e - l.length)).toList.length = grownCap w l.length 0 e - l.length := by
  rw [Array.length_toList, size_zeroCells, hzs, Nat.mul_one]
 have hrow : RowIs e 1 (.slice (some ⟨w.heap.size, 0, none⟩) l.length (grownCap w l.length 0 e)) l.length (l.map byt) [(w.heap.size, Obj.cells (l.map byt ++ (Builtin.zeroCells z.cells (grownCap w l.length 0 e - l.length)).toList).toArray e (0, 0))] :=
  ⟨by simp, .inr ⟨w.heap.size, grownCap w l.length 0 e, (Builtin.zeroCells z.cells (grownCap w l.length 0 e - l.length)).toList, rfl, hge, grownCap_le_maxLen _ _ _ _ (by unfold maxLen; omega), by rw [List.length_map, hjl]; omega, rfl⟩⟩
 exact step hF h hg (by simp) (v := .slice (some ⟨w.heap.size, 0, none⟩) l.length (grownCap w l.length 0 e)) (by simp [execOp, resolve, invoke, builtin, h.eval hx, h.eval hy, hrun]) (K _ _ _ _ hrow (H.drew.alloc _) (h.put hd _))
end
end Go.Proofs.YtjlmpghcjgbfjaaGreatDoor.Ex
namespace Go.Proofs.YtjlmpghcjgbfjaaGreatDoor.Cw
open Go Go.RowKit Go.Proofs Ex Cd
set_option maxRecDepth 100000
def cB (p : Option Addr) (v : Value) : Obj := .cells [.pointer p, v].toArray 93 (0, 0)
theorem info93 : ∃ j, Tryz.prog.info? 93 = some j ∧ j.size ≠ 0 := by
 have h : (Tryz.prog.info? 93).map (·.size) = some 2 := by kernel_rfl
 obtain ⟨j, hj, e⟩ := Option.map_eq_some_iff.1 h
 exact ⟨j, hj, by rw [e]; decide⟩
theorem check_ret {n0 : Nat} {w0 : World} {c : Nat} {p : Option Addr} {v : Value} {X : List (Nat × Obj)} {w : World} (H : St n0 w0 ((c, cB p v) :: X) w) (hp : p = none ∨ p = some ⟨c, 0, none⟩) :
 Rets Tryz.prog 64 [ptr c 0] w fun _ w' => St n0 w0 ((c, cB (some ⟨c, 0, none⟩) v) :: X) w' := by
 obtain ⟨j, hj1, hj2⟩ := info93
 refine enter Tryz.func64 rfl (Nat.le_of_ble_eq_true rfl) ?_
 intro a h; rw [Tryz.ntmps64] at h
 have hF := Fd.wide
 rcases hp with rfl | rfl
 · repeat refine cS0 ?_
   refine cR0 ?_
   refine sM0 hF h rfl rfl (by decide) ?_
   clear h; intro a h
   refine i_nilCheck hF h rfl rfl (by decide) ?_
   clear h; intro a h
   refine iFa0 hF h rfl rfl rfl (by decide) ?_
   clear h; intro a h; try simp only [Nat.reduceAdd] at h
   refine iL0 hF h H rfl rfl (by repeat (first | exact mh1 | apply mt1 | apply ma1)) (by exact rfl) (by decide) ?_
   clear h; intro a h
   refine i_eqNilP hF h rfl Tryz.underlying91 rfl rfl (by decide) ?_
   clear h; intro a h
   first | refine cEt0 ?_ | refine cE0 ?_
   repeat refine cS0 ?_
   refine c_condT h rfl ?_
   repeat refine cS0 ?_
   refine cR0 ?_
   refine sM0 hF h rfl rfl (by decide) ?_
   clear h; intro a h
   refine sM0 hF h rfl rfl (by decide) ?_
   clear h; intro a h
   refine i_convRun hF h rfl rfl (Lib.run_to_unsafe w ⟨c, 0, none⟩ Tryz.underlying91 Tryz.underlying124 hj1 hj2 (shape_of (H.mem (List.Mem.head _))) (Nat.zero_lt_succ 1)) (by decide) ?_
   clear h; intro a h
   refine i_callExt hF h rfl rfl (by rw [run_callFunc_extern Tryz.func82 (by kernel_rfl) (by kernel_rfl) (by kernel_rfl) (e := Extern.AbiNoEscape.same) (by kernel_rfl), Lib.run_noEscape]; rfl) (by decide) ?_
   clear h; intro a h
   refine i_convRun hF h rfl rfl (Lib.run_from_unsafe w ⟨c, 0, none⟩ Tryz.underlying124 Tryz.underlying91 hj1 (shape_of (H.mem (List.Mem.head _))) (by kernel_rfl)) (by decide) ?_
   clear h; intro a h
   refine i_nilCheck hF h rfl rfl (by decide) ?_
   clear h; intro a h
   refine iFa0 hF h rfl rfl rfl (by decide) ?_
   clear h; intro a h; try simp only [Nat.reduceAdd] at h
   refine jS0 hF h H rfl rfl rfl rfl (by repeat (first | exact Upd.here | apply Upd.there | apply Upd.app)) (by repeat (first | exact SetAt.zero | apply SetAt.succ)) ?_
   clear H; intro w H
   first | refine cEt0 ?_ | refine cE0 ?_
   refine leaveN (fn := Tryz.f64) h Tryz.results64 .nil ?_
   exact ⟨_, rfl, H⟩
 · repeat refine cS0 ?_
   refine cR0 ?_
   refine sM0 hF h rfl rfl (by decide) ?_
   clear h; intro a h
   refine i_nilCheck hF h rfl rfl (by decide) ?_
   clear h; intro a h
   refine iFa0 hF h rfl rfl rfl (by decide) ?_
   clear h; intro a h; try simp only [Nat.reduceAdd] at h
   refine iL0 hF h H rfl rfl (by repeat (first | exact mh1 | apply mt1 | apply ma1)) (by exact rfl) (by decide) ?_
   clear h; intro a h
   refine i_eqNilP hF h rfl Tryz.underlying91 rfl rfl (by decide) ?_
   clear h; intro a h
   first | refine cEt0 ?_ | refine cE0 ?_
   repeat refine cS0 ?_
   refine c_condF h rfl ?_
   repeat refine cS0 ?_
   refine cR0 ?_
   refine sM0 hF h rfl rfl (by decide) ?_
   clear h; intro a h
   refine i_nilCheck hF h rfl rfl (by decide) ?_
   clear h; intro a h
   refine iFa0 hF h rfl rfl rfl (by decide) ?_
   clear h; intro a h; try simp only [Nat.reduceAdd] at h
   refine iL0 hF h H rfl rfl (by repeat (first | exact mh1 | apply mt1 | apply ma1)) (by exact rfl) (by decide) ?_
   clear h; intro a h
   refine sM0 hF h rfl rfl (by decide) ?_
   clear h; intro a h
   refine i_neSame hF h rfl Tryz.underlying91 hj1 rfl rfl (by decide) ?_
   clear h; intro a h
   first | refine cEt0 ?_ | refine cE0 ?_
   repeat refine cS0 ?_
   refine c_condF h rfl ?_
   first | refine cKt0 ?_ | refine cK0 ?_
   refine leaveN (fn := Tryz.f64) h Tryz.results64 .nil ?_
   exact ⟨_, rfl, H⟩
theorem writeS_ret {n0 : Nat} {w0 : World} {c : Nat} {l : List UInt8} {X : List (Nat × Obj)} {w : World} (H : St n0 w0 ((c, cB none (.slice none 0 0)) :: X) w) (h0 : 0 < l.length) (h1 : l.length ≤ 1000000) :
 Rets Tryz.prog 48 [ptr c 0, str l] w fun _ w' => ∃ v R, RowIs 5 1 v l.length (l.map byt) R ∧ St n0 w0 (R ++ (c, cB (some ⟨c, 0, none⟩) v) :: X) w' := by
 have hp : (none : Option Addr) = none ∨ (none : Option Addr) = some ⟨c, 0, none⟩ := .inl rfl
 refine enter Tryz.func48 rfl (Nat.le_of_ble_eq_true rfl) ?_
 intro a h; rw [Tryz.ntmps48] at h
 have hF := Fd.wide
 repeat refine cS0 ?_
 refine cR0 ?_
 refine sA0 hF h rfl rfl (by decide) ?_
 clear h; intro a h
 refine sA0 hF h rfl rfl (by decide) ?_
 clear h; intro a h
 first | refine cEt0 ?_ | refine cE0 ?_
 repeat refine cS0 ?_
 refine cR0 ?_
 refine sM0 hF h rfl rfl (by decide) ?_
 clear h; intro a h
 refine i_call hF h rfl (check_ret H hp) rfl (by decide) ?_
 clear h H; rintro _ w H a h
 first | refine cEt0 ?_ | refine cE0 ?_
 repeat refine cS0 ?_
 refine cR0 ?_
 refine sM0 hF h rfl rfl (by decide) ?_
 clear h; intro a h
 refine sM0 hF h rfl rfl (by decide) ?_
 clear h; intro a h
 refine i_nilCheck hF h rfl rfl (by decide) ?_
 clear h; intro a h
 refine iFa0 hF h rfl rfl rfl (by decide) ?_
 clear h; intro a h; try simp only [Nat.reduceAdd] at h
 refine iL0 hF h H rfl rfl (by repeat (first | exact mh1 | apply mt1 | apply ma1)) (by exact rfl) (by decide) ?_
 clear h; intro a h
 refine sM0 hF h rfl rfl (by decide) ?_
 clear h; intro a h
 refine i_appendNilStr hF h H rfl rfl rfl h0 h1 (by decide) (by decide) ?_
 clear h H; intro a w v' R' hr' H h
 refine i_nilCheck hF h rfl rfl (by decide) ?_
 clear h; intro a h
 refine iFa0 hF h rfl rfl rfl (by decide) ?_
 clear h; intro a h; try simp only [Nat.reduceAdd] at h
 refine jS0 hF h H rfl rfl rfl hr'.one (by repeat (first | exact Upd.here | apply Upd.there | apply Upd.app)) (by repeat (first | exact SetAt.zero | apply SetAt.succ)) ?_
 clear H; intro w H
 first | refine cEt0 ?_ | refine cE0 ?_
 repeat refine cS0 ?_
 refine cR0 ?_
 refine sM0 hF h rfl rfl (by decide) ?_
 clear h; intro a h
 (first | (refine i_len hF h rfl rfl (by decide) ?_) | (refine i_lenS hF h rfl rfl (by decide) ?_))
 clear h; intro a h
 refine sA0 hF h rfl rfl (by decide) ?_
 clear h; intro a h
 refine sA0 hF h rfl rfl (by decide) ?_
 clear h; intro a h
 first | refine cEt0 ?_ | refine cE0 ?_
 refine c_ret ?_
 with_reducible repeat (first | refine xa0 ?_ | refine xb0 ?_ | refine xc0 ?_ | refine xd0 ?_ | refine xe0 (by decide) ?_ | refine xf0 ?_ | refine xg0 ?_ | refine xh0 ?_ | refine xi0 ?_)
 refine leave (fn := Tryz.f48) h Tryz.results48 (.tmp rfl (.tmp rfl (.nil))) ?_
 exact ⟨_, rfl, v', R', hr', H⟩
theorem writeB_ret {n0 : Nat} {w0 : World} {c : Nat} {v : Value} {l : List UInt8} {x : UInt8} {R X : List (Nat × Obj)} {w : World} (hr : RowIs 5 1 v l.length (l.map byt) R) (H : St n0 w0 (R ++ (c, cB (some ⟨c, 0, none⟩) v) :: X) w) (hl : l.length ≤ 1000000) :
 Rets Tryz.prog 49 [ptr c 0, byt x] w fun _ w' => ∃ v R, RowIs 5 1 v (l ++ [x]).length ((l ++ [x]).map byt) R ∧ St n0 w0 (R ++ (c, cB (some ⟨c, 0, none⟩) v) :: X) w' := by
 replace H : St n0 w0 ((c, cB (some ⟨c, 0, none⟩) v) :: (R ++ X)) w := H.perm List.perm_middle.symm
 refine enter Tryz.func49 rfl (Nat.le_of_ble_eq_true rfl) ?_
 intro a h; rw [Tryz.ntmps49] at h
 have hF := Fd.wide
 repeat refine cS0 ?_
 refine cR0 ?_
 refine sA0 hF h rfl rfl (by decide) ?_
 clear h; intro a h
 first | refine cEt0 ?_ | refine cE0 ?_
 repeat refine cS0 ?_
 refine cR0 ?_
 refine sM0 hF h rfl rfl (by decide) ?_
 clear h; intro a h
 refine i_call hF h rfl (check_ret (X := R ++ X) H (.inr rfl)) rfl (by decide) ?_
 clear h H; rintro _ w H a h
 first | refine cEt0 ?_ | refine cE0 ?_
 repeat refine cS0 ?_
 refine cR0 ?_
 refine sM0 hF h rfl rfl (by decide) ?_
 clear h; intro a h
 refine sM0 hF h rfl rfl (by decide) ?_
 clear h; intro a h
 refine i_nilCheck hF h rfl rfl (by decide) ?_
 clear h; intro a h
 refine iFa0 hF h rfl rfl rfl (by decide) ?_
 clear h; intro a h; try simp only [Nat.reduceAdd] at h
 refine iL0 hF h H rfl rfl (by repeat (first | exact mh1 | apply mt1 | apply ma1)) (by exact rfl) (by decide) ?_
 clear h; intro a h
 refine sM0 hF h rfl rfl (by decide) ?_
 clear h; intro a h
 replace H := H.newIn
 refine i_buildSlice hF h H rfl rfl (by decide) (by decide) rfl (by decide) ?_
 clear h H; intro a w b13 _ h H
 replace H := H.newIn
 refine i_append hF h hr H rfl rfl rfl (m := 1) (news := [byt x]) rfl (cells_own H (by repeat (first | exact mh1 | apply mt1 | apply ma1))) (by simp [Value.oneCell']) (by omega) (by omega) (by decide) ?_
 clear h H; intro a w v' R' hr' H h
 refine i_nilCheck hF h rfl rfl (by decide) ?_
 clear h; intro a h
 refine iFa0 hF h rfl rfl rfl (by decide) ?_
 clear h; intro a h; try simp only [Nat.reduceAdd] at h
 refine jS0 hF h H rfl rfl rfl hr'.one (by repeat (first | exact Upd.here | apply Upd.there | apply Upd.app)) (by repeat (first | exact SetAt.zero | apply SetAt.succ)) ?_
 clear H; intro w H
 first | refine cEt0 ?_ | refine cE0 ?_
 repeat refine cS0 ?_
 refine cR0 ?_
 refine sA0 hF h rfl rfl (by decide) ?_
 clear h; intro a h
 first | refine cEt0 ?_ | refine cE0 ?_
 refine c_ret ?_
 with_reducible repeat (first | refine xa0 ?_ | refine xb0 ?_ | refine xc0 ?_ | refine xd0 ?_ | refine xe0 (by decide) ?_ | refine xf0 ?_ | refine xg0 ?_ | refine xh0 ?_ | refine xi0 ?_)
 refine leave (fn := Tryz.f49) h Tryz.results49 (.tmp rfl (.nil)) ?_
 exact ⟨_, rfl, v', R', by simpa using hr', H.dropIn⟩
end Go.Proofs.YtjlmpghcjgbfjaaGreatDoor.Cw
namespace Go.Proofs.YtjlmpghcjgbfjaaGreatDoor.Cw
open Go Go.RowKit Go.Proofs Ex Cd
set_option maxRecDepth 100000
theorem isBuilder {n0 : Nat} {w0 : World} {c : Nat} {v : Value} {l : List UInt8} {R X : List (Nat × Obj)} {w : World} (hr : RowIs 5 1 v l.length (l.map byt) R) (H : St n0 w0 (R ++ (c, cB (some ⟨c, 0, none⟩) v) :: X) w) : Lib.IsBuilder 93 5 n0 c (Lib.byteCells l) w := by
 refine .inr ⟨H.own (c, _) (List.mem_append_right _ (List.Mem.head _)), v, H.mem (List.mem_append_right _ (List.Mem.head _)), ?_, ?_⟩
 · refine ⟨by simp [Lib.byteCells], ?_⟩
   have hl : (Lib.byteCells l).length = l.length := Lib.byteCells_length l
   rw [hl]
   rcases hr.2 with ⟨rfl, h0, rfl⟩ | ⟨g, cap, junk, rfl, hle, hm, hlen, rfl⟩
   · exact .inl ⟨rfl, h0⟩
   · refine .inr ⟨g, cap, _, rfl, H.own (g, _) (List.Mem.head _), H.mem (List.Mem.head _), hle, hm, by simpa using hlen, ?_⟩
     have : (l.map byt) = Lib.byteCells l := rfl
     simp [this, ← hl]
 · rcases hr.2 with ⟨rfl, _, _⟩ | ⟨g, cap, junk, rfl, _, _, _, rfl⟩
   · simp [Value.ownBlock]
   · intro e
     have e : g = c := by simpa [Value.ownBlock] using e
     have := H.nodup
     subst e
     simp at this
theorem string_ret {n0 : Nat} {w0 : World} {c : Nat} {v : Value} {l : List UInt8} {R X : List (Nat × Obj)} {w : World} (hr : RowIs 5 1 v l.length (l.map byt) R) (H : St n0 w0 (R ++ (c, cB (some ⟨c, 0, none⟩) v) :: X) w) :
 Rets Tryz.prog 50 [ptr c 0] w fun u w' => u = str l ∧ Below n0 w w' := by
 refine Calls.mono (Tryz.Builder_String_any n0 c l w (isBuilder hr H) H.low) ?_
 rintro e w' ⟨rfl, hb⟩
 exact ⟨_, rfl, rfl, hb⟩
theorem and15 (x : Nat) (h : x < 256) : bitI .u8 .and x 15 = some ((x % 16 : Nat) : Int) := by
 have := upto (fun k => decide (bitI .u8 .and k 15 = some ((k % 16 : Nat) : Int))) 256 (by decide +kernel) x h
 exact of_decide_eq_true this
theorem shr4 (x : Nat) (h : x < 256) : shI .u8 .shr x 4 = some ((x / 16 : Nat) : Int) := by
 have := upto (fun k => decide (shI .u8 .shr k 4 = some ((k / 16 : Nat) : Int))) 256 (by decide +kernel) x h
 exact of_decide_eq_true this
def digs : List UInt8 := [48, 49, 50, 51, 52, 53, 54, 55, 56, 57, 97, 98, 99, 100, 101, 102]
theorem digs_at (k : Nat) (h : k < 16) : digs[k]? = some (hexd k) := by
 have := upto (fun k => decide (digs[k]? = some (hexd k))) 16 (by decide +kernel) k h
 exact of_decide_eq_true this
theorem hex_ret (v : Value) (l : List UInt8) (hl : l.length ≤ 10000) (w : World) (hB : BS w v l) : Rets Tryz.prog 24 [v] w fun u w' => u = str (Cd.hex l) ∧ Below w.heap.size w w' := by
 refine enter Tryz.func24 rfl (Nat.le_of_ble_eq_true rfl) ?_
 intro a h; rw [Tryz.ntmps24] at h
 have hF := Fd.wide; have H := St.begin w
 repeat refine cS0 ?_
 refine cR0 ?_
 refine sA0 hF h rfl rfl (by decide) ?_
 clear h; intro a h
 first | refine cEt0 ?_ | refine cE0 ?_
 repeat refine cS0 ?_
 refine cR0 ?_
 refine i_alloc hF h H rfl (by decide) ?_
 clear h H; intro a w b3 _ h H
 first | refine cEt0 ?_ | refine cE0 ?_
 repeat refine cS0 ?_
 refine cR0 ?_
 refine i_call hF h rfl (writeS_ret (l := [48, 120]) H (by decide) (by decide)) rfl (by decide) ?_
 clear h H; rintro _ w ⟨vb, R, hr, H⟩ a h
 first | refine cEt0 ?_ | refine cE0 ?_
 repeat refine cS0 ?_
 refine cR0 ?_
 refine sM0 hF h rfl rfl (by decide) ?_
 clear h; intro a h
 refine i_lenB hF h rfl rfl (hB.at H (Nat.le_refl _)) (by decide) ?_
 clear h; intro a h
 refine sM0 hF h rfl rfl (by decide) ?_
 clear h; intro a h
 first | refine cEt0 ?_ | refine cE0 ?_
 repeat refine cS0 ?_
 refine c_block ?_
 refine c_loopN (fun q a' w' => ∃ j vb R, q = l.length - j ∧ j ≤ l.length ∧ RowIs 5 1 vb ([48, 120] ++ hexs (l.take j)).length (([48, 120] ++ hexs (l.take j)).map byt) R ∧ Fr 23 [] [(9, int (j : Nat)), (8, int l.length), (7, v), (3, ptr b3 0)] a' ∧ St _ _ (R ++ [(b3, cB (some ⟨b3, 0, none⟩) vb)]) w') l.length ⟨0, vb, R, rfl, by omega, hr, (h.sub (by repeat (first | exact trivial | refine ⟨rfl, ?_⟩))), H⟩ ?_
 clear h H hr vb R
 rintro q a w ⟨j, vb, R, rfl, hj, hr, h, H⟩
 by_cases hj2 : j < l.length
 · repeat refine cS0 ?_
   refine cR0 ?_
   (first | (refine iC0 hF h rfl rfl rfl (i_lss_t (by omega)) (by decide) ?_) | (refine iC0 hF h rfl rfl rfl (i_lss_f (by omega)) (by decide) ?_))
   clear h; intro a h
   first | refine cEt0 ?_ | refine cE0 ?_
   repeat refine cS0 ?_
   refine c_condT h rfl ?_
   first | refine cKt0 ?_ | refine cK0 ?_
   obtain ⟨x, hx⟩ : ∃ x, l[j]? = some x := ⟨_, List.getElem?_eq_getElem hj2⟩
   have hlen1 : ([48, 120] ++ hexs (l.take j)).length ≤ 20002 := by
    rw [List.length_append, hexs_length, List.length_take]; simp; omega
   repeat refine cS0 ?_
   refine c_block ?_
   repeat refine cS0 ?_
   refine cR0 ?_
   refine i_idxB hF h rfl rfl (hB.at H (Nat.le_refl _)) rfl hx (by decide) ?_
   clear h; intro be bo a hbe h
   refine i_loadW hF h rfl rfl hbe (by decide) ?_
   clear h; intro a h
   refine sA0 hF h rfl rfl (by decide) ?_
   clear h; intro a h
   first | refine cEt0 ?_ | refine cE0 ?_
   repeat refine cS0 ?_
   refine cR0 ?_
   refine sM0 hF h rfl rfl (by decide) ?_
   clear h; intro a h
   refine i_sh hF h rfl rfl rfl (by decide) (shr4 x.toNat x.toNat_lt) (by decide) ?_
   clear h; intro a h
   refine i_indexStr (l := digs) hF h rfl rfl rfl (digs_at _ (by have := x.toNat_lt; omega)) (by decide) ?_
   clear h; intro a h
   refine i_call hF h rfl (writeB_ret hr H (by omega)) rfl (by decide) ?_
   clear h H hr; rintro _ w ⟨vb, R, hr, H⟩ a h
   first | refine cEt0 ?_ | refine cE0 ?_
   have hlen2 : ([48, 120] ++ hexs (l.take j) ++ [hexd (x.toNat / 16)]).length ≤ 20003 := by
    rw [List.length_append]; simp only [List.length_cons, List.length_nil]; omega
   repeat refine cS0 ?_
   refine cR0 ?_
   refine sM0 hF h rfl rfl (by decide) ?_
   clear h; intro a h
   refine i_bit hF h rfl rfl rfl (and15 x.toNat x.toNat_lt) (by decide) ?_
   clear h; intro a h
   refine i_indexStr (l := digs) hF h rfl rfl rfl (digs_at _ (by omega)) (by decide) ?_
   clear h; intro a h
   refine i_call hF h rfl (writeB_ret hr H (by omega)) rfl (by decide) ?_
   clear h H hr; rintro _ w ⟨vb, R, hr, H⟩ a h
   first | refine cEt0 ?_ | refine cE0 ?_
   with_reducible repeat (first | refine xa0 ?_ | refine xb0 ?_ | refine xc0 ?_ | refine xd0 ?_ | refine xe0 (by decide) ?_ | refine xf0 ?_ | refine xg0 ?_ | refine xh0 ?_ | refine xi0 ?_)
   repeat refine cS0 ?_
   refine cR0 ?_
   refine i_ar64 hF h rfl rfl rfl rfl (by omega) (by omega) (by decide) ?_
   clear h; intro a h
   refine sM0 hF h rfl rfl (by decide) ?_
   clear h; intro a h
   refine cE0 ?_
   refine ⟨l.length - (j + 1), by omega, j + 1, vb, R, rfl, by omega, ?_, (h.sub (by repeat (first | exact trivial | refine ⟨rfl, ?_⟩))), H⟩
   have e : hexs (l.take (j + 1)) = hexs (l.take j) ++ [hexd (x.toNat / 16), hexd (x.toNat % 16)] := by
    rw [List.take_add_one, hx]
    simp [hexs]
   rw [e]
   simpa [List.append_assoc] using hr
 · repeat refine cS0 ?_
   refine cR0 ?_
   (first | (refine iC0 hF h rfl rfl rfl (i_lss_t (by omega)) (by decide) ?_) | (refine iC0 hF h rfl rfl rfl (i_lss_f (by omega)) (by decide) ?_))
   clear h; intro a h
   first | refine cEt0 ?_ | refine cE0 ?_
   repeat refine cS0 ?_
   refine c_condF h rfl ?_
   refine c_exit ?_
   with_reducible repeat (first | refine xa0 ?_ | refine xb0 ?_ | refine xc0 ?_ | refine xd0 ?_ | refine xe0 (by decide) ?_ | refine xf0 ?_ | refine xg0 ?_ | refine xh0 ?_ | refine xi0 ?_)
   have hj3 : j = l.length := by omega
   subst hj3
   rw [List.take_length] at hr
   repeat refine cS0 ?_
   refine cR0 ?_
   refine i_call hF h rfl (string_ret hr H) rfl (by decide) ?_
   clear h; rintro _ w ⟨rfl, hb⟩ a h
   refine sA0 hF h rfl rfl (by decide) ?_
   clear h; intro a h
   refine cEt0 ?_
   refine c_ret ?_
   with_reducible repeat (first | refine xa0 ?_ | refine xb0 ?_ | refine xc0 ?_ | refine xd0 ?_ | refine xe0 (by decide) ?_ | refine xf0 ?_ | refine xg0 ?_ | refine xh0 ?_ | refine xi0 ?_)
   refine leave (fn := Tryz.f24) h Tryz.results24 (.tmp rfl (.nil)) ?_
   exact ⟨_, rfl, rfl, H.below.trans hb⟩
end Go.Proofs.YtjlmpghcjgbfjaaGreatDoor.Cw
namespace Go.Proofs.YtjlmpghcjgbfjaaGreatDoor.Cw
open Go Go.RowKit Go.Proofs Ex Cd
set_option maxRecDepth 100000
def wordsAt (c : List UInt8) (k : Nat) : List (List UInt8) := wordsOf (c.getD k 0) (c.drop (k + 1))
theorem words_ops : ∀ (m k : Nat) (c : List UInt8), c.length ≤ k + m → wordsN m (c.drop k) = (opsN m c k).flatMap (wordsAt c)
 | 0, _, _, _ => rfl
 | m + 1, k, c, h => by
  rw [opsN]
  split
  · rename_i hk
    have e : c.drop k = c.getD k 0 :: c.drop (k + 1) := by
     rw [List.drop_eq_getElem_cons hk, List.getD_eq_getElem?_getD, List.getElem?_eq_getElem hk]; rfl
    rw [e, wordsN, List.flatMap_cons, List.drop_drop, words_ops m _ c (by omega)]
    rfl
  · rw [List.drop_of_length_le (by omega)]; rfl
theorem words_all (c : List UInt8) : words c = (ops c).flatMap (wordsAt c) := by
 have := words_ops c.length 0 c (by omega)
 simpa [words, ops] using this
theorem words_count (c : List UInt8) (pre : List Nat) : (pre.flatMap (wordsAt c)).length ≤ 2 * pre.length := by
 induction pre with
 | nil => simp
 | cons k pre ih =>
  rw [List.flatMap_cons, List.length_append, List.length_cons]
  have := (wordsOf_length (c.getD k 0) (c.drop (k + 1))).2
  unfold wordsAt at *
  omega
end Go.Proofs.YtjlmpghcjgbfjaaGreatDoor.Cw
namespace Go.Proofs.YtjlmpghcjgbfjaaGreatDoor.Cw
open Go Go.RowKit Go.Proofs Ex Cd
set_option maxRecDepth 100000
theorem lib_join (ws : List (List UInt8)) : Lib.join ws [32] = Cd.join ws := by
 induction ws with
 | nil => rfl
 | cons x ws ih =>
  cases ws with
  | nil => simp [Lib.join, Cd.join, List.intercalate]
  | cons y ws => simp_all [Lib.join, Cd.join, List.intercalate]
theorem join_ret (v : Value) (ws : List (List UInt8)) (hn : ws.length ≤ 100000) (hl : (Cd.join ws).length ≤ 100000000) (w : World) (hE : ES str w v ws) : Rets Tryz.prog 26 [v, str [32]] w fun u w' => u = str (Cd.join ws) ∧ Below w.heap.size w w' := by
 obtain ⟨p, cap, rfl, hcap, (⟨rfl, rfl⟩ | ⟨b, off, rfl, hb, hc⟩)⟩ := hE
 · refine Calls.mono (Tryz.strings_Join_none none cap ⟨#[32]⟩ w) ?_
   rintro e w' ⟨rfl, rfl⟩
   exact ⟨_, rfl, rfl, Below.refl _ _⟩
 · have e : (ws.map fun l => (⟨l.toArray⟩ : ByteArray)).map (fun x => x.data.toList) = ws := by
    rw [List.map_map]
    exact List.map_id'' (fun _ => rfl) ws |>.trans rfl
   have := Tryz.strings_Join b off cap (ws.map fun l => (⟨l.toArray⟩ : ByteArray)) ⟨#[32]⟩ w (fun j x hx => by
    rw [List.getElem?_map] at hx
    cases hw : ws[j]? with
    | none => rw [hw] at hx; cases hx
    | some l => rw [hw] at hx; cases hx; exact hc j l hw) hb (by simp; omega) (by simpa using hcap) (by rw [e]; show (Lib.join ws [32]).length ≤ _; rw [lib_join]; omega)
   rw [e] at this
   simp only [List.length_map] at this
   refine Calls.mono this ?_
   rintro e' w' ⟨rfl, hbel⟩
   exact ⟨_, rfl, by show str (Lib.join ws [32]) = _; rw [lib_join], hbel⟩
end Go.Proofs.YtjlmpghcjgbfjaaGreatDoor.Cw
namespace Go.Proofs.YtjlmpghcjgbfjaaGreatDoor.Cw
open Go Go.RowKit Go.Proofs Ex Cd
set_option maxRecDepth 100000
theorem ES_own {w : World} {b : Nat} {cs : List UInt8} {E : TypeId} {fr : Nat × Nat} (h : w.heap[b]? = some (.cells (cs.map byt).toArray E fr)) : BS w (.slice (some ⟨b, 0, none⟩) cs.length cs.length) cs := by
 refine ⟨_, _, rfl, Nat.le_refl _, .inr ⟨b, 0, rfl, lt_of_heap h, fun j x hj => ?_⟩⟩
 rw [cell_of (off := 0 + j) h]
 simp [hj]
theorem text_ret (v : Value) (c : List UInt8) (hc : c.length ≤ 1000) (w : World) (hB : BS w v c) :
 Rets Tryz.prog 10 [v] w fun u w' => u = str (Cd.text c) ∧ Below w.heap.size w w' := by
 refine enterM Tryz.func10 rfl (Nat.le_of_ble_eq_true rfl) ?_
 intro a h; rw [Tryz.ntmps10] at h
 have hF := Fd.wide; have H := St.begin w
 repeat refine cS0 ?_
 refine cR0 ?_
 refine i_box1 hF h H rfl rfl (ES_one hB) (by decide) ?_
 clear h H; intro a w b1 _ h H
 refine sA0 hF h rfl rfl (by decide) ?_
 clear h; intro a h
 refine cEt0 ?_
 repeat refine cS0 ?_
 refine cR0 ?_
 refine i_alloc hF h H rfl (by decide) ?_
 clear h H; intro a w b3 _ h H
 first | refine cEt0 ?_ | refine cE0 ?_
 repeat refine cS0 ?_
 refine cR0 ?_
 refine i_call hF h rfl (table_ret _) rfl (by decide) ?_
 clear h; rintro _ w ⟨bm, M, c1, rfl, hbm, hmm, hT, hb⟩ a h; replace H := H.callNew hb hbm hmm; clear hb hbm hmm
 refine i_alloc hF h H rfl (by decide) ?_
 clear h H; intro a w b4 _ h H
 refine jS0 hF h H rfl rfl rfl rfl (by repeat (first | exact Upd.here | apply Upd.there | apply Upd.app)) (by repeat (first | exact SetAt.zero | apply SetAt.succ)) ?_
 clear H; intro w H
 first | refine cEt0 ?_ | refine cE0 ?_
 repeat refine cS0 ?_
 refine cR0 ?_
 refine iL0 hF h H rfl rfl (by repeat (first | exact mh1 | apply mt1 | apply ma1)) (by exact rfl) (by decide) ?_
 clear h; intro a h
 refine i_call hF h rfl (opsF_ret _ (ES_one hB) _) rfl (by decide) ?_
 clear h; rintro _ w ⟨bx, rfl, hbx, hmx, hb⟩ a h; replace H := H.callNew hb hbx hmx; clear hb hbx hmx
 first | refine cEt0 ?_ | refine cE0 ?_
 repeat refine cS0 ?_
 refine c_block ?_
 refine c_rangeFunc (ps := [12, 13]) (Rd := fun W => W.cell? ⟨bx, 0, none⟩ = some v ∧ BS W v c) h H rfl (ops_iter bx v c (by omega))
  (fun pre L1 => ∃ u R, RowIs 9 1 u (pre.flatMap (wordsAt c)).length ((pre.flatMap (wordsAt c)).map str) R ∧ L1 = R ++ [(bx, .cells [v].toArray 22 (0, 0)), (b4, .cells [.map (some bm)].toArray 56 (0, 0)), (bm, mapObj byt M c1), (b3, .cells [u].toArray 55 (0, 0)), (b1, .cells [v].toArray 22 (0, 0))]) (fun _ _ _ => False)
  (fun k => [(6, byt (c.getD k 0)), (5, int (k : Nat)), (4, ptr b4 0), (3, ptr b3 0), (1, ptr b1 0)]) (fun _ => rfl) (by decide) ⟨.slice none 0 0, [], RowIs.nil 9 1, rfl⟩ ?_ ?_ ?_ ?_ ?_
 · rintro pre _ W ⟨u, R, hr, rfl⟩ H
   exact ⟨by rw [cell_of (H.mem (by repeat (first | exact mh1 | apply mt1 | apply ma1)))]; rfl, hB.at H (Nat.le_refl _)⟩
 · intro l k w a h
   have hF := Fd.inRound l
   repeat refine cS0 ?_
   refine cR0 ?_
   refine sA0 hF h rfl rfl (by decide) ?_
   clear h; intro a h
   first | refine cEt0 ?_ | refine cE0 ?_
   repeat refine cS0 ?_
   refine cR0 ?_
   refine sA0 hF h rfl rfl (by decide) ?_
   clear h; intro a h
   refine cE0 ?_
   exact ⟨rfl, (h.sub (by repeat (first | exact trivial | refine ⟨rfl, ?_⟩)))⟩
 · clear h H
   rintro l E pre k _ w a ⟨u, R, hr, rfl⟩ hsp H h
   have hF := Fd.inRound l
   have hkc : k < c.length := by
    obtain ⟨t, ht⟩ := hsp
    refine ops_lt c.length 0 c k ?_
    have : k ∈ ops c := by rw [← ht]; simp
    exact this
   have hcnt : ((pre ++ [k]).flatMap (wordsAt c)).length ≤ 2000 := by
    have h1 := words_count c (pre ++ [k])
    have h2 := hsp.length_le
    have h3 := ops_length c.length 0 c
    unfold ops at h2
    omega
   rw [List.flatMap_append, List.length_append] at hcnt
   obtain ⟨x, hx⟩ : ∃ x, c[k]? = some x := ⟨_, List.getElem?_eq_getElem hkc⟩
   have hxd : c.getD k 0 = x := by rw [List.getD_eq_getElem?_getD, hx]; rfl
   rw [hxd] at h
   refine c_block ?_
   cases hi : info x.toNat with
   | none =>
    have hget : mget M x = none := (hT.2 x).2 (show ¬ (info x.toNat).isSome = true by rw [hi]; decide)
    have hw : wordsAt c k = [Cd.hex [x]] := by unfold wordsAt wordsOf; rw [hxd, hi]
    repeat refine cS0 ?_
    refine cR0 ?_
    refine iL0 hF h H rfl rfl (by repeat (first | exact mh1 | apply mt1 | apply ma1)) (by exact rfl) (by decide) ?_
    clear h; intro a h
    refine sM0 hF h rfl rfl (by decide) ?_
    clear h; intro a h
    refine i_lookupW (enc := byt) (zero := .agg (cellsI noneI).toArray) hF h rfl (.inr ⟨_, rfl⟩) rfl rfl (H.mem (by repeat (first | exact mh1 | apply mt1 | apply ma1))) (by decide) zero42 ?_
    clear h; intro a h
    simp only [hget, Option.getD_none, Option.isSome_none] at h
    refine sM0 hF h rfl rfl (by decide) ?_
    clear h; intro a h
    refine iX0 hF h rfl rfl rfl (by decide) ?_
    clear h; intro a h
    refine iX0 hF h rfl rfl rfl (by decide) ?_
    clear h; intro a h
    refine i_alloc hF h H rfl (by decide) ?_
    clear h H; intro a w b7 _ h H
    refine j_storeA hF h H rfl rfl rfl rfl rfl (by repeat (first | exact Upd.here | apply Upd.there | apply Upd.app)) (by repeat (first | exact PutAt.nil | apply PutAt.put | apply PutAt.skip)) ?_
    clear H; intro w H
    refine sA0 hF h rfl rfl (by decide) ?_
    clear h; intro a h
    first | refine cEt0 ?_ | refine cE0 ?_
    repeat refine cS0 ?_
    refine cR0 ?_
    refine sM0 hF h rfl rfl (by decide) ?_
    clear h; intro a h
    refine i_not hF h rfl rfl (by decide) ?_
    clear h; intro a h; try simp only [Bool.not_false] at h
    first | refine cEt0 ?_ | refine cE0 ?_
    repeat refine cS0 ?_
    refine c_condT h rfl ?_
    repeat refine cS0 ?_
    refine d_regionS [6] ([(b3, .cells [u].toArray 55 (0, 0))]) (by kernel_rfl) H (by repeat (first | exact ln1 | exact ls1 | exact lr1 | apply lk1 | apply List.Sublist.cons | apply la1)) ?_
    clear H; intro w H
    apply dP0 hF h 0 rfl rfl (by kernel_rfl) (by decide) NoP.np (by kernel_rfl) (H.sub (by repeat (first | exact ln1 | exact ls1 | exact lr1 | apply lk1 | apply List.Sublist.cons | apply la1)))
    · intro w H
      refine iL0 hF h H rfl rfl (by repeat (first | exact mh1 | apply mt1 | apply ma1)) (by exact rfl) (by decide) ?_
      intro a h
      exact ⟨rfl, h⟩
    clear h; intro a h
    apply dQ0 hF h 1 rfl rfl (by kernel_rfl) (by decide) NoP.np (fun _ => H.sub (by repeat (first | exact ln1 | exact ls1 | exact lr1 | apply lk1 | apply List.Sublist.cons | apply la1)))
    · intro w
      refine sM0 hF h rfl rfl (by decide) ?_
      intro a h
      exact ⟨rfl, h⟩
    clear h; intro a h
    refine dE0 2 rfl (by kernel_rfl) ?_
    refine i_buildSlice hF h H rfl rfl (by decide) (by decide) rfl (by decide) ?_
    clear h H; intro a w b24 _ h H
    refine dN0 (H.sub (by repeat (first | exact ln1 | exact ls1 | exact lr1 | apply lk1 | apply List.Sublist.cons | apply la1))) ?_
    refine dE0 3 rfl (by kernel_rfl) ?_
    refine i_call hF h rfl (hex_ret _ [x] (by simp) _ (ES_own (cs := [x]) (H.mem (List.Mem.head _)))) rfl (by decide) ?_
    clear h; rintro _ w ⟨rfl, hb⟩ a h; replace H := H.call hb; clear hb
    refine dN0 (H.sub (by repeat (first | exact ln1 | exact ls1 | exact lr1 | apply lk1 | apply List.Sublist.cons | apply la1))) ?_
    refine dE0 4 rfl (by kernel_rfl) ?_
    refine i_buildSlice hF h H rfl rfl (by decide) (by decide) rfl (by decide) ?_
    clear h H; intro a w b26 _ h H
    refine dN0 (H.sub (by repeat (first | exact ln1 | exact ls1 | exact lr1 | apply lk1 | apply List.Sublist.cons | apply la1))) ?_
    replace H := St.swap (E := (b26, _) :: (b24, _) :: (b7, _) :: E) H
    refine dE0 5 rfl (by kernel_rfl) ?_
    refine i_append hF h hr H rfl rfl rfl (m := 1) (news := [str (Cd.hex [x])]) rfl (cells_own H (by repeat (first | exact mh1 | apply mt1 | apply ma1))) (by simp [Value.oneCell']) (by omega) (by omega) (by decide) ?_
    clear h H; intro a w u' R' hr' H h
    refine dN0 (H.sub (by repeat (first | exact ln1 | exact ls1 | exact lr1 | apply lk1 | apply List.Sublist.cons | apply la1))) ?_
    refine dE0 6 rfl (by kernel_rfl) ?_
    refine jS0 hF h H rfl rfl rfl hr'.one (by repeat (first | exact Upd.here | apply Upd.there | apply Upd.app)) (by repeat (first | exact SetAt.zero | apply SetAt.succ)) ?_
    clear H; intro w H
    refine dNm0 (by kernel_rfl) ?_
    first | refine d_endThen (by kernel_rfl) ?_ | refine d_endQ (by kernel_rfl) ?_
    refine c_exit ?_
    with_reducible repeat (first | refine xa0 ?_ | refine xb0 ?_ | refine xc0 ?_ | refine xd0 ?_ | refine xe0 (by decide) ?_ | refine xf0 ?_ | refine xg0 ?_ | refine xh0 ?_ | refine xi0 ?_)
    refine ⟨_, ⟨u', R', ?_, rfl⟩, (St.swap (E := R') (R := (b26, _) :: (b24, _) :: (b7, _) :: E) H).sub (.cons _ (.cons _ (.cons _ (.refl _))))⟩
    have e : (pre ++ [k]).flatMap (wordsAt c) = pre.flatMap (wordsAt c) ++ [Cd.hex [x]] := by
     rw [List.flatMap_append, List.flatMap_cons, List.flatMap_nil, List.append_nil, hw]
    rw [e]
    simpa using hr'
   | some y =>
    have hget : mget M x = some (valI y) := by rw [(hT.2 x).1 (show (info x.toNat).isSome = true by rw [hi]; rfl), hi]; rfl
    have hsz := size_known x.toNat y x.toNat_lt hi
    repeat refine cS0 ?_
    refine cR0 ?_
    refine iL0 hF h H rfl rfl (by repeat (first | exact mh1 | apply mt1 | apply ma1)) (by exact rfl) (by decide) ?_
    clear h; intro a h
    refine sM0 hF h rfl rfl (by decide) ?_
    clear h; intro a h
    refine i_lookupW (enc := byt) (zero := .agg (cellsI noneI).toArray) hF h rfl (.inr ⟨_, rfl⟩) rfl rfl (H.mem (by repeat (first | exact mh1 | apply mt1 | apply ma1))) (by decide) zero42 ?_
    clear h; intro a h
    simp only [hget, Option.getD_some, Option.isSome_some] at h
    refine sM0 hF h rfl rfl (by decide) ?_
    clear h; intro a h
    refine iX0 hF h rfl rfl rfl (by decide) ?_
    clear h; intro a h
    refine iX0 hF h rfl rfl rfl (by decide) ?_
    clear h; intro a h
    refine i_alloc hF h H rfl (by decide) ?_
    clear h H; intro a w b7 _ h H
    refine j_storeA hF h H rfl rfl rfl rfl rfl (by repeat (first | exact Upd.here | apply Upd.there | apply Upd.app)) (by repeat (first | exact PutAt.nil | apply PutAt.put | apply PutAt.skip)) ?_
    clear H; intro w H
    refine sA0 hF h rfl rfl (by decide) ?_
    clear h; intro a h
    first | refine cEt0 ?_ | refine cE0 ?_
    repeat refine cS0 ?_
    refine cR0 ?_
    refine sM0 hF h rfl rfl (by decide) ?_
    clear h; intro a h
    refine i_not hF h rfl rfl (by decide) ?_
    clear h; intro a h; try simp only [Bool.not_true] at h
    first | refine cEt0 ?_ | refine cE0 ?_
    repeat refine cS0 ?_
    refine c_condF h rfl ?_
    first | refine cKt0 ?_ | refine cK0 ?_
    replace H := St.swap (E := (b7, _) :: E) H
    repeat refine cS0 ?_
    refine cR0 ?_
    refine iL0 hF h H rfl rfl (by repeat (first | exact mh1 | apply mt1 | apply ma1)) (by exact rfl) (by decide) ?_
    clear h; intro a h
    refine iFa0 hF h rfl rfl rfl (by decide) ?_
    clear h; intro a h; try simp only [Nat.reduceAdd] at h
    refine iL0 hF h H rfl rfl (by repeat (first | exact mh1 | apply mt1 | apply ma1)) (by exact rfl) (by decide) ?_
    clear h; intro a h
    refine i_buildSlice hF h H rfl rfl (by decide) (by decide) rfl (by decide) ?_
    clear h H; intro a w b31 _ h H
    replace H := H.newIn
    refine i_append hF h hr H rfl rfl rfl (m := 1) (news := [str y.1]) rfl (cells_own H (by repeat (first | exact mh1 | apply mt1 | apply ma1))) (by simp [Value.oneCell']) (by omega) (by omega) (by decide) ?_
    clear h H; intro a w u' R' hr' H h
    refine jS0 hF h H rfl rfl rfl hr'.one (by repeat (first | exact Upd.here | apply Upd.there | apply Upd.app)) (by repeat (first | exact SetAt.zero | apply SetAt.succ)) ?_
    clear H; intro w H
    first | refine cEt0 ?_ | refine cE0 ?_
    by_cases h0 : sz x.toNat = 0
    · repeat refine cS0 ?_
      refine cR0 ?_
      refine iFa0 hF h rfl rfl rfl (by decide) ?_
      clear h; intro a h; try simp only [Nat.reduceAdd] at h
      refine iL0 hF h H rfl rfl (by repeat (first | exact mh1 | apply mt1 | apply ma1)) (by exact rfl) (by decide) ?_
      clear h; intro a h
      (first | (refine iC0 hF h rfl rfl rfl (i_gtr_t (by omega)) (by decide) ?_) | (refine iC0 hF h rfl rfl rfl (i_gtr_f (by omega)) (by decide) ?_))
      clear h; intro a h
      first | refine cEt0 ?_ | refine cE0 ?_
      repeat refine cS0 ?_
      refine c_condF h rfl ?_
      first | refine cKt0 ?_ | refine cK0 ?_
      with_reducible repeat (first | refine xa0 ?_ | refine xb0 ?_ | refine xc0 ?_ | refine xd0 ?_ | refine xe0 (by decide) ?_ | refine xf0 ?_ | refine xg0 ?_ | refine xh0 ?_ | refine xi0 ?_)
      refine ⟨_, ⟨u', R', ?_, rfl⟩, (St.swap (E := R') (R := (b31, _) :: (b7, _) :: E) H).sub (.cons _ (.cons _ (.refl _)))⟩
      have e : (pre ++ [k]).flatMap (wordsAt c) = pre.flatMap (wordsAt c) ++ [y.1] := by
       rw [List.flatMap_append, List.flatMap_cons, List.flatMap_nil, List.append_nil]
       unfold wordsAt wordsOf; rw [hxd, hi]; simp only [if_pos h0]
      rw [e]
      simpa using hr'
    · repeat refine cS0 ?_
      refine cR0 ?_
      refine iFa0 hF h rfl rfl rfl (by decide) ?_
      clear h; intro a h; try simp only [Nat.reduceAdd] at h
      refine iL0 hF h H rfl rfl (by repeat (first | exact mh1 | apply mt1 | apply ma1)) (by exact rfl) (by decide) ?_
      clear h; intro a h
      (first | (refine iC0 hF h rfl rfl rfl (i_gtr_t (by omega)) (by decide) ?_) | (refine iC0 hF h rfl rfl rfl (i_gtr_f (by omega)) (by decide) ?_))
      clear h; intro a h
      first | refine cEt0 ?_ | refine cE0 ?_
      repeat refine cS0 ?_
      refine c_condT h rfl ?_
      have hpl := pad_length (sz x.toNat) (c.drop (k + 1))
      have hs32 := sz_le x.toNat
      repeat refine cS0 ?_
      refine d_regionS [7] ([(b3, .cells [u'].toArray 55 (0, 0)), (b1, .cells [v].toArray 22 (0, 0))]) (by kernel_rfl) H (by repeat (first | exact ln1 | exact ls1 | exact lr1 | apply lk1 | apply List.Sublist.cons | apply la1)) ?_
      clear H; intro w H
      apply dP0 hF h 0 rfl rfl (by kernel_rfl) (by decide) NoP.np (by kernel_rfl) (H.sub (by repeat (first | exact ln1 | exact ls1 | exact lr1 | apply lk1 | apply List.Sublist.cons | apply la1)))
      · intro w H
        refine iL0 hF h H rfl rfl (by repeat (first | exact mh1 | apply mt1 | apply ma1)) (by exact rfl) (by decide) ?_
        intro a h
        exact ⟨rfl, h⟩
      clear h; intro a h
      apply dP0 hF h 1 rfl rfl (by kernel_rfl) (by decide) NoP.np (by kernel_rfl) (H.sub (by repeat (first | exact ln1 | exact ls1 | exact lr1 | apply lk1 | apply List.Sublist.cons | apply la1)))
      · intro w H
        refine iL0 hF h H rfl rfl (by repeat (first | exact mh1 | apply mt1 | apply ma1)) (by exact rfl) (by decide) ?_
        intro a h
        exact ⟨rfl, h⟩
      clear h; intro a h
      apply dQ0 hF h 2 rfl rfl (by kernel_rfl) (by decide) NoP.np (fun _ => H.sub (by repeat (first | exact ln1 | exact ls1 | exact lr1 | apply lk1 | apply List.Sublist.cons | apply la1)))
      · intro w
        refine sM0 hF h rfl rfl (by decide) ?_
        intro a h
        exact ⟨rfl, h⟩
      clear h; intro a h
      refine dE0 3 rfl (by kernel_rfl) ?_
      refine i_call hF h rfl (behind_ret v c k x (by omega) _ (hB.at H (Nat.le_refl _)) hx) rfl (by decide) ?_
      clear h; rintro vb w hg a h; obtain ⟨R2, hr2, H2⟩ := H.row hg; replace H := H2; clear H2
      refine dN0 (H.sub (by repeat (first | exact ln1 | exact ls1 | exact lr1 | apply lk1 | apply List.Sublist.cons | apply la1))) ?_
      refine dE0 4 rfl (by kernel_rfl) ?_
      refine i_call hF h rfl (hex_ret _ _ (by omega) _ (ES.row hr2 H).1) rfl (by decide) ?_
      clear h; rintro _ w ⟨rfl, hb⟩ a h; replace H := H.call hb; clear hb
      refine dN0 (H.sub (by repeat (first | exact ln1 | exact ls1 | exact lr1 | apply lk1 | apply List.Sublist.cons | apply la1))) ?_
      refine dE0 5 rfl (by kernel_rfl) ?_
      refine i_buildSlice hF h H rfl rfl (by decide) (by decide) rfl (by decide) ?_
      clear h H; intro a w b41 _ h H
      refine dN0 (H.sub (by repeat (first | exact ln1 | exact ls1 | exact lr1 | apply lk1 | apply List.Sublist.cons | apply la1))) ?_
      replace H := St.swap (E := (b41, _) :: R2) H
      refine dE0 6 rfl (by kernel_rfl) ?_
      refine i_append hF h hr' H rfl rfl rfl (m := 1) (news := [str (Cd.hex (pad (sz x.toNat) (c.drop (k + 1))))]) rfl (cells_own H (by repeat (first | exact mh1 | apply mt1 | apply ma1))) (by simp [Value.oneCell']) (by omega) (by omega) (by decide) ?_
      clear h H; intro a w u2 R3 hr3 H h
      refine dN0 (H.sub (by repeat (first | exact ln1 | exact ls1 | exact lr1 | apply lk1 | apply List.Sublist.cons | apply la1))) ?_
      refine dE0 7 rfl (by kernel_rfl) ?_
      refine jS0 hF h H rfl rfl rfl hr3.one (by repeat (first | exact Upd.here | apply Upd.there | apply Upd.app)) (by repeat (first | exact SetAt.zero | apply SetAt.succ)) ?_
      clear H; intro w H
      refine dNm0 (by kernel_rfl) ?_
      first | refine d_endThen (by kernel_rfl) ?_ | refine d_endQ (by kernel_rfl) ?_
      with_reducible repeat (first | refine xa0 ?_ | refine xb0 ?_ | refine xc0 ?_ | refine xd0 ?_ | refine xe0 (by decide) ?_ | refine xf0 ?_ | refine xg0 ?_ | refine xh0 ?_ | refine xi0 ?_)
      refine ⟨_, ⟨u2, R3, ?_, rfl⟩, (St.swap (E := R3) (R := ((b41, _) :: R2) ++ ((b31, _) :: (b7, _) :: E)) (by rw [List.append_assoc]; exact H)).sub ?_⟩
      · have e : (pre ++ [k]).flatMap (wordsAt c) = pre.flatMap (wordsAt c) ++ [y.1] ++ [Cd.hex (pad (sz x.toNat) (c.drop (k + 1)))] := by
         rw [List.flatMap_append, List.flatMap_cons, List.flatMap_nil, List.append_nil]
         unfold wordsAt wordsOf; rw [hxd, hi]; simp only [if_neg h0]; simp
        rw [e]
        simpa using hr3
      · rw [List.append_assoc]
        exact .cons _ (List.sublist_append_of_sublist_right (.cons _ (.cons _ (.refl _))))
 · clear h H
   rintro D xs _ w a rfl ⟨u, R, hr, rfl⟩ H h
   with_reducible repeat (first | refine xa0 ?_ | refine xb0 ?_ | refine xc0 ?_ | refine xd0 ?_ | refine xe0 (by decide) ?_ | refine xf0 ?_ | refine xg0 ?_ | refine xh0 ?_ | refine xi0 ?_)
   rw [← words_all] at hr
   have hwl : (words c).length ≤ 2 * c.length := wordsN_length _ _
   have htl : (join (words c)).length ≤ 134 * c.length := text_length c
   have hE := (ES.row (l := words c) hr H.newIn).1
   repeat refine cS0 ?_
   refine cR0 ?_
   refine iL0 hF h H rfl rfl (by repeat (first | exact mh1 | apply mt1 | apply ma1)) (by exact rfl) (by decide) ?_
   clear h; intro a h
   refine i_call hF h rfl (join_ret u (words c) (by omega) (by omega) _ hE) rfl (by decide) ?_
   clear h; rintro _ w ⟨rfl, hb⟩ a h; replace H := H.call hb; clear hb
   refine sA0 hF h rfl rfl (by decide) ?_
   clear h; intro a h
   first | refine cEt0 ?_ | refine cE0 ?_
   refine c_ret ?_
   with_reducible repeat (first | refine xa0 ?_ | refine xb0 ?_ | refine xc0 ?_ | refine xd0 ?_ | refine xe0 (by decide) ?_ | refine xf0 ?_ | refine xg0 ?_ | refine xh0 ?_ | refine xi0 ?_)
   refine leaveM (Ds := [D]) (fn := Tryz.f10) Tryz.results10 h H (fun w' H' => .tmp rfl .nil) (fun w' H' => ?_)
   exact ⟨_, rfl, rfl, H'.done⟩
 · rintro _ _ _ _ _ _ _ h _ _
   exact h.elim
end Go.Proofs.YtjlmpghcjgbfjaaGreatDoor.Cw
namespace Go.Proofs.YtjlmpghcjgbfjaaGreatDoor.Ex
open Go Go.RowKit
section
variable {F : Fence} {n : Nat} {P : Program} {ops : Array Oper} {Q : Exit → Act → World → Prop} {a : Act} {w : World} {rest : List Oper}
variable {N : Nat} {ds : List Deferred} {T : List (Nat × Value)} {n0 : Nat} {w0 : World} {L L' : List (Nat × Obj)}
variable {ty : TypeId} {ps : String} {af : Array Edge} {g : Option (Nat × Bool)} {d : Nat}
theorem i_appendE {α : Type} {enc : α → Value} (hF : Fd F) (h : Fr N ds T a) {e : TypeId} {bytes : Nat} {v vy : Value} {k : Nat} {xs : List Value} {R : List (Nat × Obj)} (hr : RowIs e 1 v k xs R) (H : St n0 w0 (R ++ L) w) (hg : guardOf T ops g = some true)
 {t : TypeId} [hs : SliceTy P t e] [he : Elem P e 1 bytes] {x y : Operand} {l : List α} (hx : ev T x = some v) (hy : ev T y = some vy) (hB : ES enc w vy l) (hpos : 0 < l.length)
 (h1 : ∀ u, (enc u).oneCell' = true) (hb : (k + l.length) * bytes ≤ 140737488355328) (h63 : k + l.length ≤ 9223372036854775807) (hd : d < N)
 (K : ∀ a' w' v' R', RowIs e 1 v' (k + l.length) (xs ++ l.map enc) R' → St n0 w0 (R' ++ L) w' → Fr N ds ((d, v') :: T) a' → wpListIn F n P ops Q rest a' w') :
 wpListIn F n P ops Q (⟨some d, .call { callee := .builtin .append, args := #[x, y], argTypes := #[t, t] }, ty, ps, af, g⟩ :: rest) a w := by
 obtain ⟨p, cap, rfl, _, (⟨_, rfl⟩ | ⟨b, off, rfl, _, hc⟩)⟩ := hB
 · simp at hpos
 · refine i_append hF h hr H hg hx hy (news := l.map enc) (by simp) (fun j u hj => ?_) (fun u hu => ?_) hb h63 hd K
   · rw [List.getElem?_map] at hj
     cases hl : l[j]? with
     | none => rw [hl] at hj; cases hj
     | some c => rw [hl] at hj; cases hj; rw [add_mk]; exact hc j c hl
   · obtain ⟨c, _, rfl⟩ := List.mem_map.1 hu
     exact h1 c
end
end Go.Proofs.YtjlmpghcjgbfjaaGreatDoor.Ex
namespace Go.Proofs.YtjlmpghcjgbfjaaGreatDoor.Ex
open Go Go.RowKit
section
variable {F : Fence} {n : Nat} {P : Program} {ops : Array Oper} {Q : Exit → Act → World → Prop} {a : Act} {w : World} {rest : List Oper}
variable {N : Nat} {ds : List Deferred} {T : List (Nat × Value)} {n0 : Nat} {w0 : World} {L L' : List (Nat × Obj)}
variable {ty : TypeId} {ps : String} {af : Array Edge} {g : Option (Nat × Bool)} {d : Nat}
/-- a place of an array behind a pointer -/
theorem i_idxArrP (hF : Fd F) (h : Fr N ds T a) (hg : guardOf T ops g = some true) {t m e sz : Nat} [hs : ArrTy P t m e] [hz : SizeIs P e sz] {x y : Operand} {b off off' j : Nat} {k : IntKind}
 (hx : ev T x = some (ptr b off)) (hy : ev T y = some (.int k (j : Int))) (hj : j < m) (ho : off + j * sz = off') (hd : d < N)
 (K : ∀ a', Fr N ds ((d, ptr b off') :: T) a' → wpListIn F n P ops Q rest a' w) : wpListIn F n P ops Q (⟨some d, .indexAddr t x y, ty, ps, af, g⟩ :: rest) a w :=
 step hF h hg (by simp) (v := ptr b off') (w' := w) (by
  simp [execOp, Instr.indexAt, Instr.sureAddr, asIntOf, h.eval hx, h.eval hy, run_underlying hs.out, run_sizeOf hz.out, add_mk, ho, hj]) (K _ (h.put hd _))
/-- a part of a row that is read in some worlds -/
theorem i_sliceES (hF : Fd F) (h : Fr N ds T a) (hg : guardOf T ops g = some true) {t e : TypeId} [hs : SliceTy P t e] [hz : SizeIs P e 1] {x : Operand} {lo hi : Option Operand} {v : Value} {α : Type} {enc : α → Value} {l : List α} {i j : Nat} {S : World → Prop} (hx : ev T x = some v) (hS : S w) (hB : ∀ w, S w → ES enc w v l)
 (hi' : bound T lo 0 i) (hj' : bound T hi l.length j) (hij : i ≤ j) (hj : j ≤ l.length) (hd : d < N)
 (K : ∀ v' a', (∀ w, S w → ES enc w v' ((l.take j).drop i)) → Fr N ds ((d, v') :: T) a' → wpListIn F n P ops Q rest a' w) :
 wpListIn F n P ops Q (⟨some d, .slice t x lo hi none, ty, ps, af, g⟩ :: rest) a w := by
 obtain ⟨p, cap, rfl, hcap, hp⟩ := hB w hS
 have hcells : ∀ w', S w' → (p = none ∧ l = []) ∨ ∃ b off, p = some ⟨b, off, none⟩ ∧ b < w'.heap.size ∧ ∀ j x, l[j]? = some x → w'.cell? ⟨b, off + j, none⟩ = some (enc x) := by
  intro w' hw'
  obtain ⟨p', cap', e, _, hp'⟩ := hB w' hw'
  cases e
  exact hp'
 by_cases hc : i = cap
 · have hjc : j = cap := by omega
   subst hc
   subst hjc
   have hl : (l.take j).drop j = [] := by simp
   refine i_sliceAtCap hF h hg hx hi' hj' hd fun a' ha => K _ a' (fun w' hw' => ?_) ha
   rw [hl]
   rcases hcells w' hw' with ⟨rfl, _⟩ | ⟨b, off, rfl, hb, _⟩
   · exact ⟨_, _, rfl, Nat.le_refl _, .inl ⟨rfl, rfl⟩⟩
   · exact ⟨_, _, rfl, Nat.le_refl _, .inr ⟨b, off, rfl, hb, fun j x hx => by simp at hx⟩⟩
 · have hlt : i < cap := by omega
   refine i_slice hF h hg hx hi' hj' hij (by omega) hd (fun a' ha => K _ a' (fun w' hw' => ?_) ha) hlt
   have hno : ¬ (cap - i = 0 ∧ i = cap) := by omega
   rw [if_neg hno]
   have hlen : ((l.take j).drop i).length = j - i := by simp; omega
   rcases hcells w' hw' with ⟨rfl, rfl⟩ | ⟨b, off, rfl, hb, hcell⟩
   · have : j - i = 0 := by simp at hj; omega
     refine ⟨none, cap - i, by rw [hlen]; rfl, by omega, .inl ⟨rfl, by simp⟩⟩
   · refine ⟨some ⟨b, off + i * 1, none⟩, cap - i, by rw [hlen]; simp [add_mk], by omega, .inr ⟨b, off + i * 1, rfl, hb, fun k x hk => ?_⟩⟩
     have h1 : l[i + k]? = some x := by
      rw [List.getElem?_drop, List.getElem?_take] at hk
      split at hk
      · exact hk
      · cases hk
     have := hcell (i + k) x h1
     rw [← this]
     congr 2; omega
/-- the first so many of a row -/
theorem i_sliceTo (hF : Fd F) (h : Fr N ds T a) (hg : guardOf T ops g = some true) {t e sz : TypeId} [hs : SliceTy P t e] [hz : SizeIs P e sz] {x y : Operand} {r : Option Addr} {len cap j : Nat} {k : IntKind} (hx : ev T x = some (.slice r len cap))
 (hy : ev T y = some (.int k (j : Int))) (hj : j ≤ cap) (hd : d < N) (K : ∀ a', Fr N ds ((d, .slice r j cap) :: T) a' → wpListIn F n P ops Q rest a' w) :
 wpListIn F n P ops Q (⟨some d, .slice t x none (some y) none, ty, ps, af, g⟩ :: rest) a w := by
 refine step hF h hg (by simp) (v := .slice r j cap) (w' := w) ?_ (K _ (h.put hd _))
 have e0 : ∀ b : Addr, b.add 0 = b := fun b => by simp [Addr.add]
 cases r with
 | none => simp [execOp, Instr.sliceAt, run_underlying hs.out, h.eval hx, h.eval hy, Instr.slice, Instr.sliceBounds, run_bound hj, run_sizeOf hz.out]
 | some b => simp [execOp, Instr.sliceAt, run_underlying hs.out, h.eval hx, h.eval hy, Instr.slice, Instr.sliceBounds, run_bound hj, run_sizeOf hz.out, e0]
/-- a made row of one-celled elements -/
theorem i_makeE (hF : Fd F) (h : Fr N ds T a) (H : St n0 w0 L w) (hg : guardOf T ops g = some true) {t e : TypeId} [hs : SliceTy P t e] {bytes : Nat} {z : Value} (hi : (P.info? e).map (fun i => (i.zero, i.size, i.bytes)) = some (some z, 1, bytes)) (hz1 : z.cells = #[z]) {x : Operand} {k : Nat} (hx : ev T x = some (int k)) (hk : k ≤ 16777216) (hb : bytes ≤ 64) (hd : d < N)
 (K : ∀ a' w' b, w.heap.size ≤ b → Fr N ds ((d, sl b k k) :: T) a' → St n0 w0 ((b, .cells (List.replicate k z).toArray e (0, 0)) :: L) w' → wpListIn F n P ops Q rest a' w') :
 wpListIn F n P ops Q (⟨some d, .makeSlice t x x, ty, ps, af, g⟩ :: rest) a w := by
 cases hq : P.info? e with
 | none => rw [hq] at hi; cases hi
 | some i =>
  rw [hq] at hi
  simp only [Option.map_some, Option.some.injEq, Prod.mk.injEq] at hi
  obtain ⟨h1, h2, h3⟩ := hi
  have hbk : bytes * k ≤ 64 * 16777216 := Nat.mul_le_mul hb hk
  have hrun := run_makeSlice (P := P) (w := w) t e i z hs.out hq h1 .i64 .i64 k k (by omega) (Int.le_refl _) (by rw [h2]; simpa using hk) (by rw [h3]; omega) (by omega)
  rw [h2] at hrun
  simp only [Int.toNat_natCast, Nat.mul_one] at hrun
  have hcells : madeCells z.cells k = (List.replicate k z).toArray := by
   rw [hz1]
   apply Array.ext'
   simp [madeCells]
   apply List.ext_getElem
   · simp
   · intro i h1 h2; simp [Nat.mod_one]
  rw [hcells] at hrun
  exact step hF h hg (by simp) (v := sl w.heap.size k k) (by simp [execOp, h.eval hx, hrun]) (K _ _ _ (Nat.le_refl _) (h.put hd _) (H.alloc _))
/-- a value as an interface -/
theorem i_iface (hF : Fd F) (h : Fr N ds T a) (hg : guardOf T ops g = some true) {t : TypeId} {kd : IntKind} [hi : IntTy P t kd] {x : Operand} {v : Value} (hx : ev T x = some v) (hd : d < N)
 (K : ∀ a', Fr N ds ((d, .iface t v) :: T) a' → wpListIn F n P ops Q rest a' w) : wpListIn F n P ops Q (⟨some d, .makeInterface t x, ty, ps, af, g⟩ :: rest) a w :=
 step hF h hg (by simp) (v := .iface t v) (w' := w) (by simp [execOp, Instr.makeInterface, h.eval hx, run_underlying hi.out]) (K _ (h.put hd _))
/-- an interface's value, of the type that is asked for -/
theorem i_assert (hF : Fd F) (h : Fr N ds T a) (hg : guardOf T ops g = some true) {s t : TypeId} {kd : IntKind} [hi : IntTy P t kd] {x : Operand} {v : Value} (hx : ev T x = some (.iface t v)) (hd : d < N)
 (K : ∀ a', Fr N ds ((d, v) :: T) a' → wpListIn F n P ops Q rest a' w) : wpListIn F n P ops Q (⟨some d, .typeAssert x s t false, ty, ps, af, g⟩ :: rest) a w :=
 step hF h hg (by simp) (v := v) (w' := w) (by simp [execOp, Instr.typeAssert, h.eval hx, run_underlying hi.out]) (K _ (h.put hd _))
/-- is there something in an interface? -/
theorem i_neNilN (hF : Fd F) (h : Fr N ds T a) (hg : guardOf T ops g = some true) {t t' : TypeId} {ms : Array (String × TypeId)} (ht : P.underlying t = some (.interface ms)) {x : Operand} (hx : ev T x = some .nilIface) (hd : d < N)
 (K : ∀ a', Fr N ds ((d, .bool false) :: T) a' → wpListIn F n P ops Q rest a' w) : wpListIn F n P ops Q (⟨some d, .binOp .neq t x (.const .nilIface) t', ty, ps, af, g⟩ :: rest) a w :=
 step hF h hg (by simp) (v := .bool false) (w' := w) (by
  have h1 : ∀ d : Nat, (Op.equalIn (d + 1) t .nilIface .nilIface).run P w = .ok true w := fun d => by simp [Op.equalIn, run_underlying ht]
  have h2 : (eqGuard .neq t x (.const .nilIface) .nilIface .nilIface).run P w = .ok () w := by simp [eqGuard]
  have e := h.eval hx
  have e2 : a.eval (.const .nilIface) = .nilIface := rfl
  simp only [execOp, e, e2, Sem.run_bind, h2, Result.andThen_ok]
  simp [binOp, Op.equal, Op.maxDepth, h1 9999]) (K _ (h.put hd _))
theorem i_neNilS (hF : Fd F) (h : Fr N ds T a) (hg : guardOf T ops g = some true) {t t' : TypeId} {ms : Array (String × TypeId)} (ht : P.underlying t = some (.interface ms)) {x : Operand} {tx : TypeId} {v : Value} (hx : ev T x = some (.iface tx v)) (hd : d < N)
 (K : ∀ a', Fr N ds ((d, .bool true) :: T) a' → wpListIn F n P ops Q rest a' w) : wpListIn F n P ops Q (⟨some d, .binOp .neq t x (.const .nilIface) t', ty, ps, af, g⟩ :: rest) a w :=
 step hF h hg (by simp) (v := .bool true) (w' := w) (by
  have h1 : ∀ d : Nat, (Op.equalIn (d + 1) t (.iface tx v) .nilIface).run P w = .ok false w := fun d => by simp [Op.equalIn, run_underlying ht]
  have h2 : (eqGuard .neq t x (.const .nilIface) (.iface tx v) .nilIface).run P w = .ok () w := by simp [eqGuard]
  have e := h.eval hx
  have e2 : a.eval (.const .nilIface) = .nilIface := rfl
  simp only [execOp, e, e2, Sem.run_bind, h2, Result.andThen_ok]
  simp [binOp, Op.equal, Op.maxDepth, h1 9999]) (K _ (h.put hd _))
/-- a panic with a value of some type -/
theorem i_panic (hF : Fd F) (h : Fr N ds T a) (hg : guardOf T ops g = some true) {x : Operand} {t : TypeId} {v : Value} (hx : ev T x = some (.iface t v)) (K : Q (.panic [{ v := .iface t v, recovered := false }]) a w) :
 wpListIn F n P ops Q (⟨none, .panic x, ty, ps, af, g⟩ :: rest) a w := by
 rw [wpListIn, if_pos (wanted_of h hg)]
 refine ⟨fun f _ => hF.fn f, ?_⟩
 rw [Oper.semAt_plain F _ _ (by simp)]
 have hr : (execOp a.eval ⟨none, .panic x, ty, ps, af, g⟩).run P w = .halt (.panic (.iface t v)) w := by
  simp [execOp, h.eval hx, Instr.panic, goPanic, Sem.run]
 rw [hr]
 exact K
/-- a call that is deferred -/
theorem i_defer (h : Fr N ds T a) (hg : guardOf T ops g = some true) {f : FuncId} {xs : List Operand} {vs : List Value} (hx : evs T xs = some vs) {ats : Array TypeId}
 (K : ∀ a', Fr N ({ target := .fn (.func f) #[], args := vs.toArray } :: ds) T a' → wpListIn Fence.wide n P ops Q rest a' w) :
 wpListIn Fence.wide n P ops Q (⟨none, .defer { callee := .value (.func f), args := xs.toArray, argTypes := ats }, ty, ps, af, g⟩ :: rest) a w := by
 rw [wpListIn, if_pos (wanted_of h hg)]
 refine ⟨fun f _ => trivial, ?_⟩
 have e := evs_eval h hx
 have hr : (Oper.semAt Fence.wide.round a.eval ⟨none, .defer { callee := .value (.func f), args := xs.toArray, argTypes := ats }, ty, ps, af, g⟩).run P w = .ok (.defer { target := .fn (.func f) #[], args := vs.toArray }) w := by
  show (Oper.semAt none a.eval _).run P w = _
  simp [Oper.semAt_none, execOp, resolve, Act.eval, Deferred.ofValue]
  exact e
 rw [hr, Oper.uponIn_defer]
 exact K _ ⟨h.size, by simp [h.defers, Act.put], h.here⟩
end
section
variable {P : Program}
theorem enterD {f : FuncId} {fn : Func} {c : Code} (hf : P.funcs[f]? = some fn) (hb : fn.body = some c) {args : List Value} {w : World} (hN : args.length ≤ fn.ntmps) {R : Ending → World → Prop}
 (K : ∀ a, Fr fn.ntmps [] (start 0 args) a → c.wpIn Fence.wide 0 P (bodyPostD P fn R) a w) : Calls P f args.toArray w R :=
 calls_of_wp_defers hf hb (wpIn_wide.1 (K _ (Fr.begin args fn.ntmps hN)))
def resTmp : ResultVar → Nat
 | .tmp t => t
 | .cell a _ => a
theorem results_put {fn : Func} {rs : List ResultVar} (hf : fn.results = rs.toArray) {m d : Nat} (hr : rs.all (fun r => decide (resTmp r < m)) = true) (hd : m ≤ d) (a : Act) (v : Value) : results fn (a.put (some d) v).tmps = results fn a.tmps := by
 have hall : ∀ r ∈ rs, resOf (a.put (some d) v).tmps r = resOf a.tmps r := by
  intro r hr'
  have hlt : resTmp r < m := by simpa using List.all_eq_true.1 hr r hr'
  have key : ∀ t, t < m → (a.put (some d) v).tmps.getD t undef = a.tmps.getD t undef := by
   intro t ht
   simp only [Act.put, Array.getD_eq_getD_getElem?, Array.getElem?_setIfInBounds]
   rw [if_neg (by omega)]
  cases r with
  | tmp t => simp only [resOf]; rw [key t hlt]
  | cell t ty => simp only [resOf]; rw [key t hlt]
 rw [results_eq, results_eq, hf]
 have hm : rs.toArray.mapM (resOf (a.put (some d) v).tmps) = rs.toArray.mapM (resOf a.tmps) := by
  rw [List.mapM_toArray, List.mapM_toArray]
  congr 1
  clear hr hf
  induction rs with
  | nil => rfl
  | cons r rs ih =>
   rw [List.mapM_cons, List.mapM_cons, hall r (by simp), ih (fun r hr => hall r (by simp [hr]))]
 rw [hm]
theorem Leaves.same {fn : Func} {tmps tmps' : Array Value} {R : Ending → World → Prop} (e : results fn tmps = results fn tmps') : ∀ (ds : List Deferred) (u : FrameMode) (w : World), Leaves P fn tmps R ds u w → Leaves P fn tmps' R ds u w := by
 intro ds
 induction ds with
 | nil =>
  intro u w h
  cases u with
  | run => exact h
  | returning => rw [Leaves] at h ⊢; rw [← e]; exact h
  | panicking c => exact h
 | cons d ds ih =>
  intro u w h
  obtain ⟨h1, fv, cap, f, args, h2, h3, h4⟩ := h
  refine ⟨h1, fv, cap, f, args, h2, h3, CallsD.mono h4 ?_⟩
  intro e' u' w' h
  cases e' with
  | returned v => exact ih _ _ h
  | panicked c => exact ih _ _ h
  | outgrown => exact h
theorem npd_bodyD {m : Nat} {fn : Func} {rs : List ResultVar} {R : Ending → World → Prop} (hf : fn.results = rs.toArray) (hr : rs.all (fun r => decide (resTmp r < m)) = true) : ∀ d, m ≤ d → NPd (bodyPostD P fn R) d :=
 fun _ hd _ a v _ h => Leaves.same (results_put hf hr hd a v) _ _ _ h
/-- what a deferred call does to its caller's way out -/
def Catches (P : Program) (f : FuncId) (args : List Value) (u : FrameMode) (w : World) (u' : FrameMode) (S : World → Prop) : Prop :=
 CallsD P f args.toArray u w fun e u'' w' => (∃ v, e = .returned v) ∧ u'' = u' ∧ S w'
theorem leaveD {N : Nat} {T : List (Nat × Value)} {a : Act} {w : World} {fn : Func} {rs : List ResultVar} {vs : List Value} {R : Ending → World → Prop} {f : FuncId} [he : Ent P f] {args : List Value}
 (h : Fr N [{ target := .fn (.func f) #[], args := args.toArray }] T a) (hf : fn.results = rs.toArray) {S : World → Prop} (hC : Catches P f args .returning w .returning S)
 (hr : ∀ w', S w' → Res P T w' rs vs) (hR : ∀ w', S w' → R (.returned (tupleOf vs)) w') : bodyPostD P fn R .ret a w := by
 show Leaves P fn a.tmps R a.defers .returning w
 rw [h.defers]
 have h0 : Fr N [] T { tmps := a.tmps, defers := [] } := ⟨h.size, rfl, h.here⟩
 refine leaves_cons (by simp) (by simpa [invoke] using he.out args.toArray w) (CallsD.mono hC ?_)
 rintro e u' w' ⟨⟨v, rfl⟩, rfl, hs⟩
 exact ⟨_, run_results h0 hf (hr w' hs), hR w' hs⟩
theorem leaveDP {N : Nat} {T : List (Nat × Value)} {a : Act} {w : World} {fn : Func} {rs : List ResultVar} {vs : List Value} {R : Ending → World → Prop} {f : FuncId} [he : Ent P f] {args : List Value} {x : Value}
 (h : Fr N [{ target := .fn (.func f) #[], args := args.toArray }] T a) (hf : fn.results = rs.toArray) {S : World → Prop} (hC : Catches P f args (.panicking [{ v := x, recovered := false }]) w (.panicking [{ v := x, recovered := true }]) S)
 (hr : ∀ w', S w' → Res P T w' rs vs) (hR : ∀ w', S w' → R (.returned (tupleOf vs)) w') : bodyPostD P fn R (.panic [{ v := x, recovered := false }]) a w := by
 show Leaves P fn a.tmps R a.defers (.panicking [{ v := x, recovered := false }]) w
 rw [h.defers]
 have h0 : Fr N [] T { tmps := a.tmps, defers := [] } := ⟨h.size, rfl, h.here⟩
 refine leaves_cons (by simp) (by simpa [invoke] using he.out args.toArray w) (CallsD.mono hC ?_)
 rintro e u' w' ⟨⟨v, rfl⟩, rfl, hs⟩
 exact ⟨_, run_results h0 hf (hr w' hs), hR w' hs⟩
/-- a deferred function whose first step recovers: what is recovered, and how the caller leaves then -/
inductive Recovers : FrameMode → Value → FrameMode → Prop
 | none : Recovers .returning .nilIface .returning
 | some {x : Value} : Recovers (.panicking [{ v := x, recovered := false }]) x (.panicking [{ v := x, recovered := true }])
theorem recoverD_of {u u' : FrameMode} {x : Value} (h : Recovers u x u') (c : Frame) (cs : List Frame) (hc : c.mode = u) :
 (∃ v, recoverD (c :: cs) = some (v, { c with mode := u' } :: cs) ∧ v = x) ∨ (recoverD (c :: cs) = none ∧ x = .nilIface ∧ u' = u) := by
 cases h with
 | none => exact .inr ⟨by simp [recoverD, hc], rfl, rfl⟩
 | some => exact .inl ⟨_, by simp [recoverD, hc], rfl⟩
/-- the walk of such a function: the first region is 'recover', then one operation that keeps it -/
theorem enterR {f : FuncId} {fn : Func} {c : Code} (hf : P.funcs[f]? = some fn) {id : Nat} {d1 d2 : Nat} {ty1 ty2 : TypeId} {p1 p2 : String} {af1 af2 : Array Edge}
 (hb : fn.body = some (.seq (.region id [⟨some d1, .call { callee := .builtin .recover, args := #[], argTypes := #[] }, ty1, p1, af1, none⟩, ⟨some d2, .assign (.tmp d1), ty2, p2, af2, none⟩].toArray false) c))
 {args : List Value} {w : World} (hN : args.length ≤ fn.ntmps) (h1 : d1 < fn.ntmps) (h2 : d2 < fn.ntmps) {u u' : FrameMode} {x : Value} (hx : Recovers u x u') {S : World → Prop}
 (K : ∀ a, Fr fn.ntmps [] ((d2, x) :: (d1, x) :: start 0 args) a → c.wpIn Fence.wide 0 P (bodyPost P fn fun e w' => (∃ v, e = .returned v) ∧ S w') a w) : Catches P f args u w u' S := by
 refine callsD_of_wpS hf hb fun c₀ cs hu => ?_
 have hfr := Fr.begin args fn.ntmps hN
 refine wpS_seq (wpS_region ?_)
 have fin : ∀ (cs' : List Frame) (a : Act), Fr fn.ntmps [] ((d1, x) :: start 0 args) a → cs' = { c₀ with mode := u' } :: cs →
  wpOpsS P #[⟨some d1, .call { callee := .builtin .recover, args := #[], argTypes := #[] }, ty1, p1, af1, none⟩, ⟨some d2, .assign (.tmp d1), ty2, p2, af2, none⟩]
   (Exit.thenS (c.wpS P (bodyPostS P fn c₀ cs fun e u'' w' => (∃ v, e = .returned v) ∧ u'' = u' ∧ S w')) (bodyPostS P fn c₀ cs fun e u'' w' => (∃ v, e = .returned v) ∧ u'' = u' ∧ S w')) [1] a cs' w := by
  intro cs' a ha hcs
  have hea : a.eval (.tmp d1) = x := ha.eval (x := .tmp d1) (by show get d1 _ = _; rw [get_cons, if_pos rfl])
  have hrun : (execOp a.eval ⟨some d2, .assign (.tmp d1), ty2, p2, af2, none⟩).run P w = .ok (.value x) w := by simp [execOp, hea]
  simp only [wpOpsS, List.getElem?_toArray, List.getElem?_cons_succ, List.getElem?_cons_zero, Region.wanted, if_true]
  rw [hrun]
  simp only [Oper.upon]
  have hput := ha.put h2 x
  have := K _ hput
  refine wpS_of_wp ?_
  refine Code.wp_mono ?_ (wpIn_wide.1 this)
  rintro e a' w' hq
  cases e with
  | normal => obtain ⟨hd, v, hv, hR, hs⟩ := hq; exact ⟨hd, u', hcs, v, hv, hR, rfl, hs⟩
  | ret => obtain ⟨hd, v, hv, hR, hs⟩ := hq; exact ⟨hd, u', hcs, v, hv, hR, rfl, hs⟩
  | panic ch => obtain ⟨hd, ⟨v, hv⟩, hs⟩ := hq; cases hv
  | exit id => exact hq.elim
  | goto l => exact hq.elim
  | outgrown => obtain ⟨⟨v, hv⟩, hs⟩ := hq; cases hv
 show wpOpsS P _ _ [0, 1] _ _ _
 have hr0 : ∀ a, (execOp a ⟨some d1, .call { callee := .builtin .recover, args := #[], argTypes := #[] }, ty1, p1, af1, none⟩).run P w = .ok .recover w := by
  intro a; simp [execOp, resolve, invoke, builtin]
 rw [wpOpsS]
 simp only [List.getElem?_toArray, List.getElem?_cons_zero, Region.wanted, if_true]
 rw [hr0]
 rcases recoverD_of hx c₀ cs hu with ⟨v, hv, rfl⟩ | ⟨hv, hxn, hu'⟩
 · simp only [hv]
   exact fin _ _ (hfr.put h1 v) rfl
 · simp only [hv]
   have hc : ({ c₀ with mode := u' } : Frame) = c₀ := by subst hu; subst hu'; rfl
   subst hxn
   exact fin _ _ (hfr.put h1 _) (by rw [hc])
end
end Go.Proofs.YtjlmpghcjgbfjaaGreatDoor.Ex
namespace Go.Proofs.YtjlmpghcjgbfjaaGreatDoor.Cw
open Go Go.RowKit Go.Proofs Ex Cd
set_option maxRecDepth 100000
def word1 (n : Int) : List Value := [.int .u64 n, .int .u64 0, .int .u64 0, .int .u64 0]
theorem read2_ret (v : Value) (w0 : World) (hB : BS w0 v [91, 0]) : Rets Tryz.prog 43 [v] w0 fun u w' => u = .tuple #[.agg (word1 23296).toArray, int 0] ∧ Below w0.heap.size w0 w' := by
 have hlen : [(91 : UInt8), 0].length = 2 := rfl
 refine enter Tryz.func43 rfl (Nat.le_of_ble_eq_true rfl) ?_
 intro a h; rw [Tryz.ntmps43] at h
 have hF := Fd.wide; have H := St.begin w0
 repeat refine cS0 ?_
 refine cR0 ?_
 refine i_alloc hF h H rfl (by decide) ?_
 clear h H; intro a w b2 _ h H
 refine sA0 hF h rfl rfl (by decide) ?_
 clear h; intro a h
 first | refine cEt0 ?_ | refine cE0 ?_
 repeat refine cS0 ?_
 refine cR0 ?_
 refine sM0 hF h rfl rfl (by decide) ?_
 clear h; intro a h
 refine i_lenB hF h rfl rfl (hB.at H (Nat.le_refl _)) (by decide) ?_
 clear h; intro a h
 (first | (refine iC0 hF h rfl rfl rfl (i_gtr_t (by omega)) (by decide) ?_) | (refine iC0 hF h rfl rfl rfl (i_gtr_f (by omega)) (by decide) ?_))
 clear h; intro a h
 first | refine cEt0 ?_ | refine cE0 ?_
 repeat refine cS0 ?_
 refine c_condF h rfl ?_
 first | refine cKt0 ?_ | refine cK0 ?_
 repeat refine cS0 ?_
 refine cR0 ?_
 refine sM0 hF h rfl rfl (by decide) ?_
 clear h; intro a h
 refine i_lenB hF h rfl rfl (hB.at H (Nat.le_refl _)) (by decide) ?_
 clear h; intro a h
 refine sM0 hF h rfl rfl (by decide) ?_
 clear h; intro a h
 first | refine cEt0 ?_ | refine cE0 ?_
 repeat refine cS0 ?_
 refine c_block ?_
 refine c_loopN (fun q a' w' => ∃ (i : Nat) (z : Int), q = 2 - i ∧ ((i = 0 ∧ z = 0) ∨ (i = 1 ∧ z = 23296) ∨ (i = 2 ∧ z = 23296)) ∧ Fr 37 [] [(13, int (i : Nat)), (12, int 2), (11, v), (3, int 0), (2, ptr b2 0), (0, v)] a' ∧ St w0.heap.size w0 [(b2, .cells (word1 z).toArray 48 (0, 0))] w') 2 ⟨0, 0, rfl, .inl ⟨rfl, rfl⟩, (h.sub (by repeat (first | exact trivial | refine ⟨rfl, ?_⟩))), H⟩ ?_
 clear h H
 rintro q a w ⟨i, z, rfl, (⟨rfl, rfl⟩ | ⟨rfl, rfl⟩ | ⟨rfl, rfl⟩), h, H⟩
 · repeat refine cS0 ?_
   refine cR0 ?_
   (first | (refine iC0 hF h rfl rfl rfl (i_lss_t (by omega)) (by decide) ?_) | (refine iC0 hF h rfl rfl rfl (i_lss_f (by omega)) (by decide) ?_))
   clear h; intro a h
   first | refine cEt0 ?_ | refine cE0 ?_
   repeat refine cS0 ?_
   refine c_condT h rfl ?_
   first | refine cKt0 ?_ | refine cK0 ?_
   repeat refine cS0 ?_
   refine c_block ?_
   repeat refine cS0 ?_
   refine cR0 ?_
   refine sM0 hF h rfl rfl (by decide) ?_
   clear h; intro a h
   refine i_idxB (j := 0) hF h rfl rfl (hB.at H (Nat.le_refl _)) rfl rfl (by decide) ?_
   clear h; intro be bo a hbe h
   refine i_loadW hF h rfl rfl hbe (by decide) ?_
   clear h; intro a h
   refine sA0 hF h rfl rfl (by decide) ?_
   clear h; intro a h
   refine sA0 hF h rfl rfl (by decide) ?_
   clear h; intro a h
   first | refine cEt0 ?_ | refine cE0 ?_
   repeat refine cS0 ?_
   refine cR0 ?_
   refine sM0 hF h rfl rfl (by decide) ?_
   clear h; intro a h
   refine i_lenB hF h rfl rfl (hB.at H (Nat.le_refl _)) (by decide) ?_
   clear h; intro a h
   refine i_ar64 hF h rfl rfl rfl rfl (by omega) (by omega) (by decide) ?_
   clear h; intro a h
   refine sM0 hF h rfl rfl (by decide) ?_
   clear h; intro a h
   refine i_ar64 hF h rfl rfl rfl rfl (by omega) (by omega) (by decide) ?_
   clear h; intro a h
   refine sA0 hF h rfl rfl (by decide) ?_
   clear h; intro a h
   first | refine cEt0 ?_ | refine cE0 ?_
   repeat refine cS0 ?_
   refine d_regionL [12] (by kernel_rfl) H ?_
   clear H; intro w H
   apply dQ0 hF h 0 rfl rfl (by kernel_rfl) (by decide) NoP.np (fun _ => H.sub (by repeat (first | exact ln1 | exact ls1 | exact lr1 | apply lk1 | apply List.Sublist.cons | apply la1)))
   · intro w
     refine sM0 hF h rfl rfl (by decide) ?_
     intro a h
     exact ⟨rfl, h⟩
   clear h; intro a h
   apply dQ0 hF h 1 rfl rfl (by kernel_rfl) (by decide) NoP.np (fun _ => H.sub (by repeat (first | exact ln1 | exact ls1 | exact lr1 | apply lk1 | apply List.Sublist.cons | apply la1)))
   · intro w
     refine i_quo hF h rfl rfl rfl (by omega) (by omega) (by simp only [IntKind.max, IntKind.signed, IntKind.bits, if_true]; omega) (by decide) ?_
     intro a h
     exact ⟨rfl, h⟩
   clear h; intro a h
   apply dQ0 hF h 2 rfl rfl (by kernel_rfl) (by decide) NoP.np (fun _ => H.sub (by repeat (first | exact ln1 | exact ls1 | exact lr1 | apply lk1 | apply List.Sublist.cons | apply la1)))
   · intro w
     refine i_idxArrP (j := 0) hF h rfl rfl rfl (by decide) rfl (by decide) ?_
     intro a h
     exact ⟨rfl, h⟩
   clear h; intro a h
   apply dP0 hF h 3 rfl rfl (by kernel_rfl) (by decide) NoP.np (by kernel_rfl) (H.sub (by repeat (first | exact ln1 | exact ls1 | exact lr1 | apply lk1 | apply List.Sublist.cons | apply la1)))
   · intro w H
     refine iL0 hF h H rfl rfl (by repeat (first | exact mh1 | apply mt1 | apply ma1)) (by exact rfl) (by decide) ?_
     intro a h
     exact ⟨rfl, h⟩
   clear h; intro a h
   apply dQ0 hF h 4 rfl rfl (by kernel_rfl) (by decide) NoP.np (fun _ => H.sub (by repeat (first | exact ln1 | exact ls1 | exact lr1 | apply lk1 | apply List.Sublist.cons | apply la1)))
   · intro w
     refine sM0 hF h rfl rfl (by decide) ?_
     intro a h
     exact ⟨rfl, h⟩
   clear h; intro a h
   apply dQ0 hF h 5 rfl rfl (by kernel_rfl) (by decide) NoP.np (fun _ => H.sub (by repeat (first | exact ln1 | exact ls1 | exact lr1 | apply lk1 | apply List.Sublist.cons | apply la1)))
   · intro w
     refine i_convByte hF h rfl rfl (by decide) ?_ (by decide)
     intro a h
     exact ⟨rfl, h⟩
   clear h; intro a h
   apply dQ0 hF h 6 rfl rfl (by kernel_rfl) (by decide) NoP.np (fun _ => H.sub (by repeat (first | exact ln1 | exact ls1 | exact lr1 | apply lk1 | apply List.Sublist.cons | apply la1)))
   · intro w
     refine sM0 hF h rfl rfl (by decide) ?_
     intro a h
     exact ⟨rfl, h⟩
   clear h; intro a h
   apply dQ0 hF h 7 rfl rfl (by kernel_rfl) (by decide) NoP.np (fun _ => H.sub (by repeat (first | exact ln1 | exact ls1 | exact lr1 | apply lk1 | apply List.Sublist.cons | apply la1)))
   · intro w
     refine i_rem hF h rfl rfl rfl (by omega) (by omega) (by decide) ?_
     intro a h
     exact ⟨rfl, h⟩
   clear h; intro a h
   apply dQ0 hF h 8 rfl rfl (by kernel_rfl) (by decide) NoP.np (fun _ => H.sub (by repeat (first | exact ln1 | exact ls1 | exact lr1 | apply lk1 | apply List.Sublist.cons | apply la1)))
   · intro w
     refine i_ar64 hF h rfl rfl rfl rfl (by omega) (by omega) (by decide) ?_
     intro a h
     exact ⟨rfl, h⟩
   clear h; intro a h
   apply dQ0 hF h 9 rfl rfl (by kernel_rfl) (by decide) NoP.np (fun _ => H.sub (by repeat (first | exact ln1 | exact ls1 | exact lr1 | apply lk1 | apply List.Sublist.cons | apply la1)))
   · intro w
     refine i_sh (z := 23296) hF h rfl rfl rfl (by decide) (by decide) (by decide) ?_
     intro a h
     exact ⟨rfl, h⟩
   clear h; intro a h
   apply dQ0 hF h 10 rfl rfl (by kernel_rfl) (by decide) NoP.np (fun _ => H.sub (by repeat (first | exact ln1 | exact ls1 | exact lr1 | apply lk1 | apply List.Sublist.cons | apply la1)))
   · intro w
     refine i_bit (z := 23296) hF h rfl rfl rfl (by decide) (by decide) ?_
     intro a h
     exact ⟨rfl, h⟩
   clear h; intro a h
   apply dQ0 hF h 11 rfl rfl (by kernel_rfl) (by decide) NoP.np (fun _ => H.sub (by repeat (first | exact ln1 | exact ls1 | exact lr1 | apply lk1 | apply List.Sublist.cons | apply la1)))
   · intro w
     refine i_idxArrP (j := 0) hF h rfl rfl rfl (by decide) rfl (by decide) ?_
     intro a h
     exact ⟨rfl, h⟩
   clear h; intro a h
   refine dE0 12 rfl (by kernel_rfl) ?_
   refine jS0 hF h H rfl rfl rfl rfl (by repeat (first | exact Upd.here | apply Upd.there | apply Upd.app)) (by repeat (first | exact SetAt.zero | apply SetAt.succ)) ?_
   clear H; intro w H
   refine dNm0 (by kernel_rfl) ?_
   first | refine d_endThen (by kernel_rfl) ?_ | refine d_endQ (by kernel_rfl) ?_
   with_reducible repeat (first | refine xa0 ?_ | refine xb0 ?_ | refine xc0 ?_ | refine xd0 ?_ | refine xe0 (by decide) ?_ | refine xf0 ?_ | refine xg0 ?_ | refine xh0 ?_ | refine xi0 ?_)
   repeat refine cS0 ?_
   refine cR0 ?_
   refine i_ar64 hF h rfl rfl rfl rfl (by omega) (by omega) (by decide) ?_
   clear h; intro a h
   refine sM0 hF h rfl rfl (by decide) ?_
   clear h; intro a h
   refine cE0 ?_
   exact ⟨1, by decide, 1, 23296, rfl, .inr (.inl ⟨rfl, rfl⟩), (h.sub (by repeat (first | exact trivial | refine ⟨rfl, ?_⟩))), H⟩
 · repeat refine cS0 ?_
   refine cR0 ?_
   (first | (refine iC0 hF h rfl rfl rfl (i_lss_t (by omega)) (by decide) ?_) | (refine iC0 hF h rfl rfl rfl (i_lss_f (by omega)) (by decide) ?_))
   clear h; intro a h
   first | refine cEt0 ?_ | refine cE0 ?_
   repeat refine cS0 ?_
   refine c_condT h rfl ?_
   first | refine cKt0 ?_ | refine cK0 ?_
   repeat refine cS0 ?_
   refine c_block ?_
   repeat refine cS0 ?_
   refine cR0 ?_
   refine sM0 hF h rfl rfl (by decide) ?_
   clear h; intro a h
   refine i_idxB (j := 1) hF h rfl rfl (hB.at H (Nat.le_refl _)) rfl rfl (by decide) ?_
   clear h; intro be bo a hbe h
   refine i_loadW hF h rfl rfl hbe (by decide) ?_
   clear h; intro a h
   refine sA0 hF h rfl rfl (by decide) ?_
   clear h; intro a h
   refine sA0 hF h rfl rfl (by decide) ?_
   clear h; intro a h
   first | refine cEt0 ?_ | refine cE0 ?_
   repeat refine cS0 ?_
   refine cR0 ?_
   refine sM0 hF h rfl rfl (by decide) ?_
   clear h; intro a h
   refine i_lenB hF h rfl rfl (hB.at H (Nat.le_refl _)) (by decide) ?_
   clear h; intro a h
   refine i_ar64 hF h rfl rfl rfl rfl (by omega) (by omega) (by decide) ?_
   clear h; intro a h
   refine sM0 hF h rfl rfl (by decide) ?_
   clear h; intro a h
   refine i_ar64 hF h rfl rfl rfl rfl (by omega) (by omega) (by decide) ?_
   clear h; intro a h
   refine sA0 hF h rfl rfl (by decide) ?_
   clear h; intro a h
   first | refine cEt0 ?_ | refine cE0 ?_
   repeat refine cS0 ?_
   refine d_regionL [12] (by kernel_rfl) H ?_
   clear H; intro w H
   apply dQ0 hF h 0 rfl rfl (by kernel_rfl) (by decide) NoP.np (fun _ => H.sub (by repeat (first | exact ln1 | exact ls1 | exact lr1 | apply lk1 | apply List.Sublist.cons | apply la1)))
   · intro w
     refine sM0 hF h rfl rfl (by decide) ?_
     intro a h
     exact ⟨rfl, h⟩
   clear h; intro a h
   apply dQ0 hF h 1 rfl rfl (by kernel_rfl) (by decide) NoP.np (fun _ => H.sub (by repeat (first | exact ln1 | exact ls1 | exact lr1 | apply lk1 | apply List.Sublist.cons | apply la1)))
   · intro w
     refine i_quo hF h rfl rfl rfl (by omega) (by omega) (by simp only [IntKind.max, IntKind.signed, IntKind.bits, if_true]; omega) (by decide) ?_
     intro a h
     exact ⟨rfl, h⟩
   clear h; intro a h
   apply dQ0 hF h 2 rfl rfl (by kernel_rfl) (by decide) NoP.np (fun _ => H.sub (by repeat (first | exact ln1 | exact ls1 | exact lr1 | apply lk1 | apply List.Sublist.cons | apply la1)))
   · intro w
     refine i_idxArrP (j := 0) hF h rfl rfl rfl (by decide) rfl (by decide) ?_
     intro a h
     exact ⟨rfl, h⟩
   clear h; intro a h
   apply dP0 hF h 3 rfl rfl (by kernel_rfl) (by decide) NoP.np (by kernel_rfl) (H.sub (by repeat (first | exact ln1 | exact ls1 | exact lr1 | apply lk1 | apply List.Sublist.cons | apply la1)))
   · intro w H
     refine iL0 hF h H rfl rfl (by repeat (first | exact mh1 | apply mt1 | apply ma1)) (by exact rfl) (by decide) ?_
     intro a h
     exact ⟨rfl, h⟩
   clear h; intro a h
   apply dQ0 hF h 4 rfl rfl (by kernel_rfl) (by decide) NoP.np (fun _ => H.sub (by repeat (first | exact ln1 | exact ls1 | exact lr1 | apply lk1 | apply List.Sublist.cons | apply la1)))
   · intro w
     refine sM0 hF h rfl rfl (by decide) ?_
     intro a h
     exact ⟨rfl, h⟩
   clear h; intro a h
   apply dQ0 hF h 5 rfl rfl (by kernel_rfl) (by decide) NoP.np (fun _ => H.sub (by repeat (first | exact ln1 | exact ls1 | exact lr1 | apply lk1 | apply List.Sublist.cons | apply la1)))
   · intro w
     refine i_convByte hF h rfl rfl (by decide) ?_ (by decide)
     intro a h
     exact ⟨rfl, h⟩
   clear h; intro a h
   apply dQ0 hF h 6 rfl rfl (by kernel_rfl) (by decide) NoP.np (fun _ => H.sub (by repeat (first | exact ln1 | exact ls1 | exact lr1 | apply lk1 | apply List.Sublist.cons | apply la1)))
   · intro w
     refine sM0 hF h rfl rfl (by decide) ?_
     intro a h
     exact ⟨rfl, h⟩
   clear h; intro a h
   apply dQ0 hF h 7 rfl rfl (by kernel_rfl) (by decide) NoP.np (fun _ => H.sub (by repeat (first | exact ln1 | exact ls1 | exact lr1 | apply lk1 | apply List.Sublist.cons | apply la1)))
   · intro w
     refine i_rem hF h rfl rfl rfl (by omega) (by omega) (by decide) ?_
     intro a h
     exact ⟨rfl, h⟩
   clear h; intro a h
   apply dQ0 hF h 8 rfl rfl (by kernel_rfl) (by decide) NoP.np (fun _ => H.sub (by repeat (first | exact ln1 | exact ls1 | exact lr1 | apply lk1 | apply List.Sublist.cons | apply la1)))
   · intro w
     refine i_ar64 hF h rfl rfl rfl rfl (by omega) (by omega) (by decide) ?_
     intro a h
     exact ⟨rfl, h⟩
   clear h; intro a h
   apply dQ0 hF h 9 rfl rfl (by kernel_rfl) (by decide) NoP.np (fun _ => H.sub (by repeat (first | exact ln1 | exact ls1 | exact lr1 | apply lk1 | apply List.Sublist.cons | apply la1)))
   · intro w
     refine i_sh (z := 0) hF h rfl rfl rfl (by decide) (by decide) (by decide) ?_
     intro a h
     exact ⟨rfl, h⟩
   clear h; intro a h
   apply dQ0 hF h 10 rfl rfl (by kernel_rfl) (by decide) NoP.np (fun _ => H.sub (by repeat (first | exact ln1 | exact ls1 | exact lr1 | apply lk1 | apply List.Sublist.cons | apply la1)))
   · intro w
     refine i_bit (z := 23296) hF h rfl rfl rfl (by decide) (by decide) ?_
     intro a h
     exact ⟨rfl, h⟩
   clear h; intro a h
   apply dQ0 hF h 11 rfl rfl (by kernel_rfl) (by decide) NoP.np (fun _ => H.sub (by repeat (first | exact ln1 | exact ls1 | exact lr1 | apply lk1 | apply List.Sublist.cons | apply la1)))
   · intro w
     refine i_idxArrP (j := 0) hF h rfl rfl rfl (by decide) rfl (by decide) ?_
     intro a h
     exact ⟨rfl, h⟩
   clear h; intro a h
   refine dE0 12 rfl (by kernel_rfl) ?_
   refine jS0 hF h H rfl rfl rfl rfl (by repeat (first | exact Upd.here | apply Upd.there | apply Upd.app)) (by repeat (first | exact SetAt.zero | apply SetAt.succ)) ?_
   clear H; intro w H
   refine dNm0 (by kernel_rfl) ?_
   first | refine d_endThen (by kernel_rfl) ?_ | refine d_endQ (by kernel_rfl) ?_
   with_reducible repeat (first | refine xa0 ?_ | refine xb0 ?_ | refine xc0 ?_ | refine xd0 ?_ | refine xe0 (by decide) ?_ | refine xf0 ?_ | refine xg0 ?_ | refine xh0 ?_ | refine xi0 ?_)
   repeat refine cS0 ?_
   refine cR0 ?_
   refine i_ar64 hF h rfl rfl rfl rfl (by omega) (by omega) (by decide) ?_
   clear h; intro a h
   refine sM0 hF h rfl rfl (by decide) ?_
   clear h; intro a h
   refine cE0 ?_
   exact ⟨0, by decide, 2, 23296, rfl, .inr (.inr ⟨rfl, rfl⟩), (h.sub (by repeat (first | exact trivial | refine ⟨rfl, ?_⟩))), H⟩
 · repeat refine cS0 ?_
   refine cR0 ?_
   (first | (refine iC0 hF h rfl rfl rfl (i_lss_t (by omega)) (by decide) ?_) | (refine iC0 hF h rfl rfl rfl (i_lss_f (by omega)) (by decide) ?_))
   clear h; intro a h
   first | refine cEt0 ?_ | refine cE0 ?_
   repeat refine cS0 ?_
   refine c_condF h rfl ?_
   refine c_exit ?_
   with_reducible repeat (first | refine xa0 ?_ | refine xb0 ?_ | refine xc0 ?_ | refine xd0 ?_ | refine xe0 (by decide) ?_ | refine xf0 ?_ | refine xg0 ?_ | refine xh0 ?_ | refine xi0 ?_)
   repeat refine cS0 ?_
   refine cR0 ?_
   refine j_loadA hF h H rfl rfl (by repeat (first | exact mh1 | apply mt1 | apply ma1)) (by repeat (first | exact Seg.nil | apply Seg.take | apply Seg.skip)) (by decide) ?_
   clear h; intro a h
   refine j_storeA hF h H rfl rfl rfl rfl rfl (by repeat (first | exact Upd.here | apply Upd.there | apply Upd.app)) (by repeat (first | exact PutAt.nil | apply PutAt.put | apply PutAt.skip)) ?_
   clear H; intro w H
   refine sA0 hF h rfl rfl (by decide) ?_
   clear h; intro a h
   first | refine cEt0 ?_ | refine cE0 ?_
   refine c_ret ?_
   with_reducible repeat (first | refine xa0 ?_ | refine xb0 ?_ | refine xc0 ?_ | refine xd0 ?_ | refine xe0 (by decide) ?_ | refine xf0 ?_ | refine xg0 ?_ | refine xh0 ?_ | refine xi0 ?_)
   refine leave (fn := Tryz.f43) h Tryz.results43 (.ownA rfl H (by repeat (first | exact mh1 | apply mt1 | apply ma1)) (by repeat (first | exact Seg.nil | apply Seg.take | apply Seg.skip)) (.tmp rfl (.nil))) ?_
   exact ⟨_, rfl, rfl, H.done⟩
end Go.Proofs.YtjlmpghcjgbfjaaGreatDoor.Cw
namespace Go.Proofs.YtjlmpghcjgbfjaaGreatDoor.Cw
open Go Go.RowKit Go.Proofs Ex Cd
set_option maxRecDepth 100000
def c5 : List UInt8 := [96, 5, 91, 97, 91]
theorem ops_c5 : ops c5 = [0, 2, 3] := by decide +kernel
theorem push_ret (v : Value) (w0 : World) (hB : BS w0 v c5) : Rets Tryz.prog 18 [v, int 3] w0 fun u w' => u = .tuple #[.agg (word1 23296).toArray, .bool true] ∧ Below w0.heap.size w0 w' := by
 refine enterM Tryz.func18 rfl (Nat.le_of_ble_eq_true rfl) ?_
 intro a h; rw [Tryz.ntmps18] at h
 have hF := Fd.wide; have H := St.begin w0
 repeat refine cS0 ?_
 refine cR0 ?_
 refine i_box1 hF h H rfl rfl (ES_one hB) (by decide) ?_
 clear h H; intro a w b2 _ h H
 refine i_box1 hF h H rfl rfl rfl (by decide) ?_
 clear h H; intro a w b3 _ h H
 refine i_alloc hF h H rfl (by decide) ?_
 clear h H; intro a w b4 _ h H
 refine i_alloc hF h H rfl (by decide) ?_
 clear h H; intro a w b5 _ h H
 refine cEt0 ?_
 repeat refine cS0 ?_
 refine cR0 ?_
 refine iL0 hF h H rfl rfl (by repeat (first | exact mh1 | apply mt1 | apply ma1)) (by exact rfl) (by decide) ?_
 clear h; intro a h
 refine i_call hF h rfl (opsF_ret _ (ES_one hB) _) rfl (by decide) ?_
 clear h; rintro _ w ⟨bx, rfl, hbx, hmx, hb⟩ a h; replace H := H.callNew hb hbx hmx; clear hb hbx hmx
 first | refine cEt0 ?_ | refine cE0 ?_
 repeat refine cS0 ?_
 refine c_block ?_
 refine c_rangeFunc (ps := [10, 11]) (Rd := fun W => W.cell? ⟨bx, 0, none⟩ = some v ∧ BS W v c5) h H rfl (ops_iter bx v c5 (by decide))
  (fun pre L1 => ¬ 3 ∈ pre ∧ L1 = [(bx, .cells [v].toArray 22 (0, 0)), (b5, .cells [.bool false].toArray 4 (0, 0)), (b4, .cells (word1 0).toArray 48 (0, 0)), (b3, .cells [int 3].toArray 3 (0, 0)), (b2, .cells [v].toArray 22 (0, 0))])
  (fun c pre L1 => c = .ret ∧ L1 = [(bx, .cells [v].toArray 22 (0, 0)), (b5, .cells [.bool true].toArray 4 (0, 0)), (b4, .cells (word1 23296).toArray 48 (0, 0)), (b3, .cells [int 3].toArray 3 (0, 0)), (b2, .cells [v].toArray 22 (0, 0))])
  (fun k => [(7, byt (c5.getD k 0)), (6, int (k : Nat)), (5, ptr b5 0), (4, ptr b4 0), (3, ptr b3 0), (2, ptr b2 0)]) (fun _ => rfl) (by decide) ⟨by simp, rfl⟩ ?_ ?_ ?_ ?_ ?_
 · rintro pre _ W ⟨_, rfl⟩ H
   exact ⟨by rw [cell_of (H.mem (by repeat (first | exact mh1 | apply mt1 | apply ma1)))]; rfl, hB.at H (Nat.le_refl _)⟩
 · intro l k w a h
   have hF := Fd.inRound l
   repeat refine cS0 ?_
   refine cR0 ?_
   refine sA0 hF h rfl rfl (by decide) ?_
   clear h; intro a h
   first | refine cEt0 ?_ | refine cE0 ?_
   repeat refine cS0 ?_
   refine cR0 ?_
   refine sA0 hF h rfl rfl (by decide) ?_
   clear h; intro a h
   refine cE0 ?_
   exact ⟨rfl, (h.sub (by repeat (first | exact trivial | refine ⟨rfl, ?_⟩)))⟩
 · clear h H
   rintro l E pre k _ w a ⟨hno, rfl⟩ hsp H h
   have hF := Fd.inRound l
   have hk : k = 0 ∨ k = 2 ∨ k = 3 := by
    obtain ⟨t, ht⟩ := hsp
    have : k ∈ ops c5 := by rw [← ht]; simp
    rw [ops_c5] at this
    simpa using this
   refine c_block ?_
   by_cases hk3 : k = 3
   · subst hk3
     have h : Fr 32 [] [(7, byt 97), (6, int 3), (5, ptr b5 0), (4, ptr b4 0), (3, ptr b3 0), (2, ptr b2 0)] a := h
     have e97 : (97 : UInt8).toNat = 97 := rfl
     repeat refine cS0 ?_
     refine cR0 ?_
     refine sM0 hF h rfl rfl (by decide) ?_
     clear h; intro a h
     refine iL0 hF h H rfl rfl (by repeat (first | exact mh1 | apply mt1 | apply ma1)) (by exact rfl) (by decide) ?_
     clear h; intro a h
     (first | (refine iC0 hF h rfl rfl rfl (i_eql_t (by omega)) (by decide) ?_) | (refine iC0 hF h rfl rfl rfl (i_eql_f (by omega)) (by decide) ?_))
     clear h; intro a h
     refine sM0 hF h rfl rfl (by decide) ?_
     clear h; intro a h
     first | (refine sK0 hF h rfl (by decide) ?_; clear h; intro a h) | (refine sM0 hF h rfl rfl (by decide) ?_; clear h; intro a h)
     first | (refine sK0 hF h rfl (by decide) ?_; clear h; intro a h) | ((first | (refine iC0 hF h rfl rfl rfl (i_geq_t (by omega)) (by decide) ?_) | (refine iC0 hF h rfl rfl rfl (i_geq_f (by omega)) (by decide) ?_)); clear h; intro a h)
     refine s_pick hF h rfl rfl rfl (by decide) ?_
     clear h; intro a h
     refine sM0 hF h rfl rfl (by decide) ?_
     clear h; intro a h
     first | (refine sK0 hF h rfl (by decide) ?_; clear h; intro a h) | (refine sM0 hF h rfl rfl (by decide) ?_; clear h; intro a h)
     first | (refine sK0 hF h rfl (by decide) ?_; clear h; intro a h) | ((first | (refine iC0 hF h rfl rfl rfl (i_leq_t (by omega)) (by decide) ?_) | (refine iC0 hF h rfl rfl rfl (i_leq_f (by omega)) (by decide) ?_)); clear h; intro a h)
     refine s_pick hF h rfl rfl rfl (by decide) ?_
     clear h; intro a h
     first | refine cEt0 ?_ | refine cE0 ?_
     repeat refine cS0 ?_
     refine c_condT h rfl ?_
     repeat refine cS0 ?_
     refine cR0 ?_
     refine iL0 hF h H rfl rfl (by repeat (first | exact mh1 | apply mt1 | apply ma1)) (by exact rfl) (by decide) ?_
     clear h; intro a h
     refine iL0 hF h H rfl rfl (by repeat (first | exact mh1 | apply mt1 | apply ma1)) (by exact rfl) (by decide) ?_
     clear h; intro a h
     refine i_call hF h rfl (behind_ret v c5 3 97 (by decide) _ (hB.at H (Nat.le_refl _)) rfl) rfl (by decide) ?_
     clear h; rintro vb w hg a h; obtain ⟨R2, hr2, H2⟩ := H.row hg; replace H := H2; clear H2 hg
     refine i_call hF h rfl (read2_ret _ _ (ES.row hr2 H).1) rfl (by decide) ?_
     clear h; rintro _ w ⟨rfl, hb⟩ a h; replace H := H.call hb; clear hb
     refine sM0 hF h rfl rfl (by decide) ?_
     clear h; intro a h
     refine iX0 hF h rfl rfl rfl (by decide) ?_
     clear h; intro a h
     refine iX0 hF h rfl rfl rfl (by decide) ?_
     clear h; intro a h
     refine j_storeA hF h H rfl rfl rfl rfl rfl (by repeat (first | exact Upd.here | apply Upd.there | apply Upd.app)) (by repeat (first | exact PutAt.nil | apply PutAt.put | apply PutAt.skip)) ?_
     clear H; intro w H
     refine cE0 ?_
     repeat refine cS0 ?_
     refine cR0 ?_
     refine j_loadA hF h H rfl rfl (by repeat (first | exact mh1 | apply mt1 | apply ma1)) (by repeat (first | exact Seg.nil | apply Seg.take | apply Seg.skip)) (by decide) ?_
     clear h; intro a h
     refine j_storeA hF h H rfl rfl rfl rfl rfl (by repeat (first | exact Upd.here | apply Upd.there | apply Upd.app)) (by repeat (first | exact PutAt.nil | apply PutAt.put | apply PutAt.skip)) ?_
     clear H; intro w H
     refine jS0 hF h H rfl rfl rfl rfl (by repeat (first | exact Upd.here | apply Upd.there | apply Upd.app)) (by repeat (first | exact SetAt.zero | apply SetAt.succ)) ?_
     clear H; intro w H
     refine cE0 ?_
     refine c_ret ?_
     with_reducible repeat (first | refine xa0 ?_ | refine xb0 ?_ | refine xc0 ?_ | refine xd0 ?_ | refine xe0 (by decide) ?_ | refine xf0 ?_ | refine xg0 ?_ | refine xh0 ?_ | refine xi0 ?_)
     refine ⟨_, ⟨rfl, rfl⟩, H.sub ?_⟩
     exact List.sublist_append_right R2 _
   · have hne : ¬ ((k : Int) = 3) := by omega
     repeat refine cS0 ?_
     refine cR0 ?_
     refine sM0 hF h rfl rfl (by decide) ?_
     clear h; intro a h
     refine iL0 hF h H rfl rfl (by repeat (first | exact mh1 | apply mt1 | apply ma1)) (by exact rfl) (by decide) ?_
     clear h; intro a h
     (first | (refine iC0 hF h rfl rfl rfl (i_eql_t (by omega)) (by decide) ?_) | (refine iC0 hF h rfl rfl rfl (i_eql_f (by omega)) (by decide) ?_))
     clear h; intro a h
     refine sM0 hF h rfl rfl (by decide) ?_
     clear h; intro a h
     first | (refine sK0 hF h rfl (by decide) ?_; clear h; intro a h) | (refine sM0 hF h rfl rfl (by decide) ?_; clear h; intro a h)
     first | (refine sK0 hF h rfl (by decide) ?_; clear h; intro a h) | ((first | (refine iC0 hF h rfl rfl rfl (i_geq_t (by omega)) (by decide) ?_) | (refine iC0 hF h rfl rfl rfl (i_geq_f (by omega)) (by decide) ?_)); clear h; intro a h)
     refine s_pick hF h rfl rfl rfl (by decide) ?_
     clear h; intro a h
     refine sM0 hF h rfl rfl (by decide) ?_
     clear h; intro a h
     first | (refine sK0 hF h rfl (by decide) ?_; clear h; intro a h) | (refine sM0 hF h rfl rfl (by decide) ?_; clear h; intro a h)
     first | (refine sK0 hF h rfl (by decide) ?_; clear h; intro a h) | ((first | (refine iC0 hF h rfl rfl rfl (i_leq_t (by omega)) (by decide) ?_) | (refine iC0 hF h rfl rfl rfl (i_leq_f (by omega)) (by decide) ?_)); clear h; intro a h)
     refine s_pick hF h rfl rfl rfl (by decide) ?_
     clear h; intro a h
     first | refine cEt0 ?_ | refine cE0 ?_
     repeat refine cS0 ?_
     refine c_condF h rfl ?_
     refine cK0 ?_
     with_reducible repeat (first | refine xa0 ?_ | refine xb0 ?_ | refine xc0 ?_ | refine xd0 ?_ | refine xe0 (by decide) ?_ | refine xf0 ?_ | refine xg0 ?_ | refine xh0 ?_ | refine xi0 ?_)
     refine ⟨_, ⟨?_, rfl⟩, H⟩
     simp only [List.mem_append, List.mem_singleton, not_or]
     exact ⟨hno, fun e => hk3 e.symm⟩
 · clear h H
   rintro D xs _ w a rfl ⟨hno, rfl⟩ H h
   exact absurd (by rw [ops_c5]; decide) hno
 · clear h H
   rintro D c pre L1 w a _ ⟨rfl, rfl⟩ H h
   refine c_ret ?_
   with_reducible repeat (first | refine xa0 ?_ | refine xb0 ?_ | refine xc0 ?_ | refine xd0 ?_ | refine xe0 (by decide) ?_ | refine xf0 ?_ | refine xg0 ?_ | refine xh0 ?_ | refine xi0 ?_)
   refine leaveM (Ds := [D]) (fn := Tryz.f18) Tryz.results18 h H (fun w' H' => .ownA rfl H' (by repeat (first | exact mh1 | apply mt1 | apply ma1)) (by repeat (first | exact Seg.nil | apply Seg.take | apply Seg.skip)) (.own rfl H' (by repeat (first | exact mh1 | apply mt1 | apply ma1)) rfl .nil)) (fun w' H' => ?_)
   exact ⟨_, rfl, rfl, H'.done⟩
end Go.Proofs.YtjlmpghcjgbfjaaGreatDoor.Cw
namespace Go.Proofs.YtjlmpghcjgbfjaaGreatDoor.Cw
open Go Go.RowKit Go.Proofs Ex Cd
set_option maxRecDepth 100000
theorem leaveP {P : Program} {N : Nat} {T : List (Nat × Value)} {a : Act} {w : World} {fn : Func} {R : Ending → World → Prop} {c : List PanicEntry} (h : Fr N [] T a) (hR : R (.panicked c) w) : bodyPost P fn R (.panic c) a w := ⟨h.defers, hR⟩
/-- what a panic with an error leaves -/
def gave (e : Int) : List PanicEntry := [{ v := .iface 31 (int e), recovered := false }]
theorem must_t (e : Int) (w : World) : Rets Tryz.prog 29 [.bool true, int e] w fun _ w' => Below w.heap.size w w' := by
 refine enter Tryz.func29 rfl (Nat.le_of_ble_eq_true rfl) ?_
 intro a h; rw [Tryz.ntmps29] at h
 have hF := Fd.wide; have H := St.begin w
 repeat refine cS0 ?_
 refine cR0 ?_
 refine sM0 hF h rfl rfl (by decide) ?_
 clear h; intro a h
 refine i_not hF h rfl rfl (by decide) ?_
 clear h; intro a h; try simp only [Bool.not_true] at h
 first | refine cEt0 ?_ | refine cE0 ?_
 repeat refine cS0 ?_
 refine c_condF h rfl ?_
 refine cK0 ?_
 refine leaveN (fn := Tryz.f29) h Tryz.results29 .nil ?_
 exact ⟨_, rfl, H.done⟩
theorem must_f (e : Int) (w : World) : RetsP Tryz.prog 29 [.bool false, int e] w (fun _ _ => False) (fun c w' => c = gave e ∧ Below w.heap.size w w') := by
 refine enter Tryz.func29 rfl (Nat.le_of_ble_eq_true rfl) ?_
 intro a h; rw [Tryz.ntmps29] at h
 have hF := Fd.wide; have H := St.begin w
 repeat refine cS0 ?_
 refine cR0 ?_
 refine sM0 hF h rfl rfl (by decide) ?_
 clear h; intro a h
 refine i_not hF h rfl rfl (by decide) ?_
 clear h; intro a h; try simp only [Bool.not_false] at h
 first | refine cEt0 ?_ | refine cE0 ?_
 repeat refine cS0 ?_
 refine c_condT h rfl ?_
 repeat refine cS0 ?_
 refine cR0 ?_
 refine sM0 hF h rfl rfl (by decide) ?_
 clear h; intro a h
 refine i_iface hF h rfl rfl (by decide) ?_
 clear h; intro a h
 refine i_panic hF h rfl rfl ?_
 with_reducible repeat (first | refine xa0 ?_ | refine xb0 ?_ | refine xc0 ?_ | refine xd0 ?_ | refine xe0 (by decide) ?_ | refine xf0 ?_ | refine xg0 ?_ | refine xh0 ?_ | refine xi0 ?_)
 exact leaveP h (.inr ⟨_, rfl, rfl, H.done⟩)
/-- worlds in which these blocks are as they are -/
def Reads (n0 : Nat) (w0 : World) (X : List (Nat × Obj)) (w : World) : Prop := St n0 w0 X w
theorem rd {n0 : Nat} {w0 w : World} {Z X E : List (Nat × Obj)} (hZ : Z.Sublist X) (H : St n0 w0 (E ++ X) w) : Reads n0 w0 Z w := H.sub (List.sublist_append_of_sublist_right hZ)
/-- a reader of words: what is left -/
theorem take_ret {n0 : Nat} {w0 : World} {b : Nat} {v : Value} {x : List UInt8} {r : List (List UInt8)} {X Z : List (Nat × Obj)} {w1 : World} (hZ : Z.Sublist X) (H : St n0 w0 ([(b, .cells [v].toArray 70 (0, 0))] ++ X) w1) (hE : ∀ w, Reads n0 w0 Z w → ES str w v (x :: r)) :
 Rets Tryz.prog 32 [ptr b 0] w1 fun u w' => u = str x ∧ ∃ v', (∀ w, Reads n0 w0 Z w → ES str w v' r) ∧ St n0 w0 ([(b, .cells [v'].toArray 70 (0, 0))] ++ X) w' := by
 have hlen : (x :: r).length = r.length + 1 := rfl
 refine enter Tryz.func32 rfl (Nat.le_of_ble_eq_true rfl) ?_
 intro a h; rw [Tryz.ntmps32] at h
 have hF := Fd.wide
 repeat refine cS0 ?_
 refine cR0 ?_
 refine sA0 hF h rfl rfl (by decide) ?_
 clear h; intro a h
 first | refine cEt0 ?_ | refine cE0 ?_
 repeat refine cS0 ?_
 refine cR0 ?_
 refine sM0 hF h rfl rfl (by decide) ?_
 clear h; intro a h
 refine i_nilCheck hF h rfl rfl (by decide) ?_
 clear h; intro a h
 refine iFa0 hF h rfl rfl rfl (by decide) ?_
 clear h; intro a h; try simp only [Nat.reduceAdd] at h
 refine iL0 hF h H rfl rfl (by repeat (first | exact mh1 | apply mt1 | apply ma1)) (by exact rfl) (by decide) ?_
 clear h; intro a h
 refine i_lenB hF h rfl rfl (hE _ (rd hZ H)) (by decide) ?_
 clear h; intro a h
 (first | (refine iC0 hF h rfl rfl rfl (i_gtr_t (by omega)) (by decide) ?_) | (refine iC0 hF h rfl rfl rfl (i_gtr_f (by omega)) (by decide) ?_))
 clear h; intro a h
 refine i_call hF h rfl (must_t _ _) rfl (by decide) ?_
 clear h; rintro _ w hb a h; replace H := St.call (L := [(b, _)] ++ X) H hb; clear hb
 first | refine cEt0 ?_ | refine cE0 ?_
 repeat refine cS0 ?_
 refine cR0 ?_
 refine sM0 hF h rfl rfl (by decide) ?_
 clear h; intro a h
 refine i_nilCheck hF h rfl rfl (by decide) ?_
 clear h; intro a h
 refine iFa0 hF h rfl rfl rfl (by decide) ?_
 clear h; intro a h; try simp only [Nat.reduceAdd] at h
 refine iL0 hF h H rfl rfl (by repeat (first | exact mh1 | apply mt1 | apply ma1)) (by exact rfl) (by decide) ?_
 clear h; intro a h
 refine i_idxB (j := 0) hF h rfl rfl (hE _ (rd hZ H)) rfl rfl (by decide) ?_
 clear h; intro be bo a hbe h
 refine i_loadW hF h rfl rfl hbe (by decide) ?_
 clear h; intro a h
 refine sA0 hF h rfl rfl (by decide) ?_
 clear h; intro a h
 first | refine cEt0 ?_ | refine cE0 ?_
 repeat refine cS0 ?_
 refine cR0 ?_
 refine sM0 hF h rfl rfl (by decide) ?_
 clear h; intro a h
 refine sM0 hF h rfl rfl (by decide) ?_
 clear h; intro a h
 refine i_nilCheck hF h rfl rfl (by decide) ?_
 clear h; intro a h
 refine iFa0 hF h rfl rfl rfl (by decide) ?_
 clear h; intro a h; try simp only [Nat.reduceAdd] at h
 refine iL0 hF h H rfl rfl (by repeat (first | exact mh1 | apply mt1 | apply ma1)) (by exact rfl) (by decide) ?_
 clear h; intro a h
 refine i_sliceES (i := 1) (j := (x :: r).length) hF h rfl rfl (rd hZ H) hE ⟨.i64, rfl⟩ rfl (by simp) (Nat.le_refl _) (by decide) ?_
 clear h; intro v' a hE2 h
 refine i_nilCheck hF h rfl rfl (by decide) ?_
 clear h; intro a h
 refine iFa0 hF h rfl rfl rfl (by decide) ?_
 clear h; intro a h; try simp only [Nat.reduceAdd] at h
 refine jS0 hF h H rfl rfl rfl (ES_one (hE2 _ (rd hZ H))) (by repeat (first | exact Upd.here | apply Upd.there | apply Upd.app)) (by repeat (first | exact SetAt.zero | apply SetAt.succ)) ?_
 clear H; intro w H
 first | refine cEt0 ?_ | refine cE0 ?_
 have e : ((x :: r).take (x :: r).length).drop 1 = r := by simp
 rw [e] at hE2
 repeat refine cS0 ?_
 refine cR0 ?_
 refine sM0 hF h rfl rfl (by decide) ?_
 clear h; intro a h
 refine sA0 hF h rfl rfl (by decide) ?_
 clear h; intro a h
 first | refine cEt0 ?_ | refine cE0 ?_
 refine c_ret ?_
 with_reducible repeat (first | refine xa0 ?_ | refine xb0 ?_ | refine xc0 ?_ | refine xd0 ?_ | refine xe0 (by decide) ?_ | refine xf0 ?_ | refine xg0 ?_ | refine xh0 ?_ | refine xi0 ?_)
 refine leave (fn := Tryz.f32) h Tryz.results32 (.tmp rfl (.nil)) ?_
 exact ⟨_, rfl, rfl, v', hE2, H⟩
/-- caught: a call that goes well -/
theorem catch_ok (b2 b3 : Nat) (w : World) : Catches Tryz.prog 27 [ptr b3 0, .func (.func 28) #[] #[ptr b2 0]] .returning w .returning (fun w' => Below w.heap.size w w') := by
 have H := St.begin w
 refine enterR Tryz.func27 rfl (Nat.le_of_ble_eq_true rfl) (Nat.le_of_ble_eq_true rfl) (Nat.le_of_ble_eq_true rfl) .none ?_
 intro a h; rw [Tryz.ntmps27] at h
 have hF := Fd.wide
 repeat refine cS0 ?_
 refine cR0 ?_
 refine sM0 hF h rfl rfl (by decide) ?_
 clear h; intro a h
 refine i_neNilN hF h rfl Tryz.underlying20 rfl (by decide) ?_
 clear h; intro a h
 refine cEt0 ?_
 repeat refine cS0 ?_
 refine c_condF h rfl ?_
 refine cK0 ?_
 refine leaveN (fn := Tryz.f27) h Tryz.results27 .nil ?_
 exact ⟨⟨_, rfl⟩, H.done⟩
/-- what is done behind a call that fails -/
theorem clear_ret {n0 : Nat} {w0 : World} {b2 : Nat} {v : Value} {X : List (Nat × Obj)} {w1 : World} (H : St n0 w0 ((b2, .cells [v].toArray 22 (0, 0)) :: X) w1) :
 Rets Tryz.prog 28 [ptr b2 0] w1 fun _ w' => St n0 w0 ((b2, .cells [.slice none 0 0].toArray 22 (0, 0)) :: X) w' := by
 refine enter Tryz.func28 rfl (Nat.le_of_ble_eq_true rfl) ?_
 intro a h; rw [Tryz.ntmps28] at h
 have hF := Fd.wide
 refine cR0 ?_
 refine jS0 hF h H rfl rfl rfl rfl (by repeat (first | exact Upd.here | apply Upd.there | apply Upd.app)) (by repeat (first | exact SetAt.zero | apply SetAt.succ)) ?_
 clear H; intro w H
 refine cE0 ?_
 refine leaveN (fn := Tryz.f28) h Tryz.results28 .nil ?_
 exact ⟨_, rfl, H⟩
/-- caught: a call that fails -/
theorem catch_bad {n0 : Nat} {w0 : World} {b2 b3 : Nat} {u : Value} {z e : Int} {X : List (Nat × Obj)} {w1 : World} (H : St n0 w0 ((b3, .cells [int z].toArray 31 (0, 0)) :: (b2, .cells [u].toArray 22 (0, 0)) :: X) w1) :
 Catches Tryz.prog 27 [ptr b3 0, .func (.func 28) #[] #[ptr b2 0]] (.panicking (gave e)) w1 (.panicking [{ v := .iface 31 (int e), recovered := true }])
  (fun w' => St n0 w0 ((b3, .cells [int e].toArray 31 (0, 0)) :: (b2, .cells [.slice none 0 0].toArray 22 (0, 0)) :: X) w') := by
 refine enterR Tryz.func27 rfl (Nat.le_of_ble_eq_true rfl) (Nat.le_of_ble_eq_true rfl) (Nat.le_of_ble_eq_true rfl) .some ?_
 intro a h; rw [Tryz.ntmps27] at h
 have hF := Fd.wide
 repeat refine cS0 ?_
 refine cR0 ?_
 refine sM0 hF h rfl rfl (by decide) ?_
 clear h; intro a h
 refine i_neNilS hF h rfl Tryz.underlying20 rfl (by decide) ?_
 clear h; intro a h
 refine cEt0 ?_
 repeat refine cS0 ?_
 refine c_condT h rfl ?_
 repeat refine cS0 ?_
 refine cR0 ?_
 refine sM0 hF h rfl rfl (by decide) ?_
 clear h; intro a h
 refine sM0 hF h rfl rfl (by decide) ?_
 clear h; intro a h
 refine i_assert hF h rfl rfl (by decide) ?_
 clear h; intro a h
 refine i_nilCheck hF h rfl rfl (by decide) ?_
 clear h; intro a h
 refine jS0 hF h H rfl rfl rfl rfl (by repeat (first | exact Upd.here | apply Upd.there | apply Upd.app)) (by repeat (first | exact SetAt.zero | apply SetAt.succ)) ?_
 clear H; intro w H
 first | refine cEt0 ?_ | refine cE0 ?_
 repeat refine cS0 ?_
 refine cR0 ?_
 refine sM0 hF h rfl rfl (by decide) ?_
 clear h; intro a h
 refine j_callV hF h rfl rfl (clear_ret (H.perm (List.Perm.swap _ _ _))) rfl rfl (by decide) ?_
 clear h H; rintro _ w H a h; replace H := H.perm (List.Perm.swap _ _ _)
 refine cE0 ?_
 with_reducible repeat (first | refine xa0 ?_ | refine xb0 ?_ | refine xc0 ?_ | refine xd0 ?_ | refine xe0 (by decide) ?_ | refine xf0 ?_ | refine xg0 ?_ | refine xh0 ?_ | refine xi0 ?_)
 refine leaveN (fn := Tryz.f27) h Tryz.results27 .nil ?_
 exact ⟨⟨_, rfl⟩, H⟩
end Go.Proofs.YtjlmpghcjgbfjaaGreatDoor.Cw
namespace Go.Proofs.YtjlmpghcjgbfjaaGreatDoor.Cw
open Go Go.RowKit Go.Proofs Ex Cd
set_option maxRecDepth 100000
theorem num_ret (z : Int) (w : World) : Rets Tryz.prog 14 [int z] w fun v w' => v = int z ∧ Below w.heap.size w w' := by
 refine enter Tryz.func14 rfl (Nat.le_of_ble_eq_true rfl) ?_
 intro a h; rw [Tryz.ntmps14] at h
 have hF := Fd.wide; have H := St.begin w
 repeat refine cS0 ?_
 refine cR0 ?_
 refine sA0 hF h rfl rfl (by decide) ?_
 clear h; intro a h
 first | refine cEt0 ?_ | refine cE0 ?_
 repeat refine cS0 ?_
 refine cR0 ?_
 refine sM0 hF h rfl rfl (by decide) ?_
 clear h; intro a h
 refine sA0 hF h rfl rfl (by decide) ?_
 clear h; intro a h
 first | refine cEt0 ?_ | refine cE0 ?_
 refine c_ret ?_
 with_reducible repeat (first | refine xa0 ?_ | refine xb0 ?_ | refine xc0 ?_ | refine xd0 ?_ | refine xe0 (by decide) ?_ | refine xf0 ?_ | refine xg0 ?_ | refine xh0 ?_ | refine xi0 ?_)
 refine leave (fn := Tryz.f14) h Tryz.results14 (.tmp rfl (.nil)) ?_
 exact ⟨_, rfl, rfl, H.done⟩
theorem of_ret (z : Int) (w : World) : Rets Tryz.prog 19 [.int .u64 z] w fun v w' => v = .agg [.int .u64 z, .int .u64 0, .int .u64 0, .int .u64 0].toArray ∧ Below w.heap.size w w' := by
 refine enter Tryz.func19 rfl (Nat.le_of_ble_eq_true rfl) ?_
 intro a h; rw [Tryz.ntmps19] at h
 have hF := Fd.wide; have H := St.begin w
 repeat refine cS0 ?_
 refine cR0 ?_
 refine i_alloc hF h H rfl (by decide) ?_
 clear h H; intro a w b2 _ h H
 first | refine cEt0 ?_ | refine cE0 ?_
 repeat refine cS0 ?_
 refine cR0 ?_
 refine sM0 hF h rfl rfl (by decide) ?_
 clear h; intro a h
 refine j_build [.int .u64 z, .int .u64 0, .int .u64 0, .int .u64 0] hF h rfl rfl (by kernel_rfl) (by decide) ?_
 clear h; intro a h
 refine j_storeA hF h H rfl rfl rfl rfl rfl (by repeat (first | exact Upd.here | apply Upd.there | apply Upd.app)) (by repeat (first | exact PutAt.nil | apply PutAt.put | apply PutAt.skip)) ?_
 clear H; intro w H
 first | refine cEt0 ?_ | refine cE0 ?_
 refine c_ret ?_
 with_reducible repeat (first | refine xa0 ?_ | refine xb0 ?_ | refine xc0 ?_ | refine xd0 ?_ | refine xe0 (by decide) ?_ | refine xf0 ?_ | refine xg0 ?_ | refine xh0 ?_ | refine xi0 ?_)
 refine leave (fn := Tryz.f19) h Tryz.results19 (.ownA rfl H (by repeat (first | exact mh1 | apply mt1 | apply ma1)) (by repeat (first | exact Seg.nil | apply Seg.take | apply Seg.skip)) (.nil)) ?_
 exact ⟨_, rfl, rfl, H.done⟩
def digitI (x : UInt8) : Int := match digit x with
 | some n => n
 | none => -1
theorem digit_find (x : UInt8) : (∀ j, j < 16 → hexd j ≠ x) → digit x = none := by
 intro h
 cases hd : digit x with
 | none => rfl
 | some n =>
  have := digit_hexd x n hd
  exact absurd this.2 (h n this.1)
theorem digit_ret (x : UInt8) (w : World) : Rets Tryz.prog 56 [byt x] w fun v w' => v = int (digitI x) ∧ Below w.heap.size w w' := by
 refine enter Tryz.func56 rfl (Nat.le_of_ble_eq_true rfl) ?_
 intro a h; rw [Tryz.ntmps56] at h
 have hF := Fd.wide; have H := St.begin w
 repeat refine cS0 ?_
 refine cR0 ?_
 refine sA0 hF h rfl rfl (by decide) ?_
 clear h; intro a h
 first | refine cEt0 ?_ | refine cE0 ?_
 repeat refine cS0 ?_
 refine cR0 ?_
 refine sA0 hF h rfl rfl (by decide) ?_
 clear h; intro a h
 first | refine cEt0 ?_ | refine cE0 ?_
 repeat refine cS0 ?_
 refine c_block ?_
 refine c_loopN (fun k a' w' => ∃ j, k = 16 - j ∧ j ≤ 16 ∧ (∀ i, i < j → hexd i ≠ x) ∧ Fr 13 [] [(3, int (j : Nat)), (0, byt x)] a' ∧ St _ _ [] w') 16 ⟨0, rfl, by omega, fun i hi => absurd hi (by omega), (h.sub (by repeat (first | exact trivial | refine ⟨rfl, ?_⟩))), H⟩ ?_
 clear h H
 rintro k a w ⟨j, rfl, hj16, hno, h, H⟩
 by_cases hj : j < 16
 · repeat refine cS0 ?_
   refine cR0 ?_
   refine sM0 hF h rfl rfl (by decide) ?_
   clear h; intro a h
   (first | (refine iC0 hF h rfl rfl rfl (i_lss_t (by omega)) (by decide) ?_) | (refine iC0 hF h rfl rfl rfl (i_lss_f (by omega)) (by decide) ?_))
   clear h; intro a h
   first | refine cEt0 ?_ | refine cE0 ?_
   repeat refine cS0 ?_
   refine c_condT h rfl ?_
   first | refine cKt0 ?_ | refine cK0 ?_
   repeat refine cS0 ?_
   refine c_block ?_
   by_cases he : (hexd j).toNat = x.toNat
   · repeat refine cS0 ?_
     refine cR0 ?_
     refine sM0 hF h rfl rfl (by decide) ?_
     clear h; intro a h
     refine i_indexStr (l := digs) hF h rfl rfl rfl (digs_at j hj) (by decide) ?_
     clear h; intro a h
     refine sM0 hF h rfl rfl (by decide) ?_
     clear h; intro a h
     (first | (refine iC0 hF h rfl rfl rfl (i_eql_t (by omega)) (by decide) ?_) | (refine iC0 hF h rfl rfl rfl (i_eql_f (by omega)) (by decide) ?_))
     clear h; intro a h
     first | refine cEt0 ?_ | refine cE0 ?_
     repeat refine cS0 ?_
     refine c_condT h rfl ?_
     repeat refine cS0 ?_
     refine cR0 ?_
     refine sM0 hF h rfl rfl (by decide) ?_
     clear h; intro a h
     refine sA0 hF h rfl rfl (by decide) ?_
     clear h; intro a h
     first | refine cEt0 ?_ | refine cE0 ?_
     refine c_ret ?_
     with_reducible repeat (first | refine xa0 ?_ | refine xb0 ?_ | refine xc0 ?_ | refine xd0 ?_ | refine xe0 (by decide) ?_ | refine xf0 ?_ | refine xg0 ?_ | refine xh0 ?_ | refine xi0 ?_)
     refine leave (fn := Tryz.f56) h Tryz.results56 (.tmp rfl (.nil)) ?_
     have hx : hexd j = x := UInt8.toNat_inj.1 he
     have hd : digitI x = j := by
      unfold digitI
      rw [← hx, (hexd_ok j hj).1]
     exact ⟨_, rfl, by rw [hd]; rfl, H.done⟩
   · repeat refine cS0 ?_
     refine cR0 ?_
     refine sM0 hF h rfl rfl (by decide) ?_
     clear h; intro a h
     refine i_indexStr (l := digs) hF h rfl rfl rfl (digs_at j hj) (by decide) ?_
     clear h; intro a h
     refine sM0 hF h rfl rfl (by decide) ?_
     clear h; intro a h
     (first | (refine iC0 hF h rfl rfl rfl (i_eql_t (by omega)) (by decide) ?_) | (refine iC0 hF h rfl rfl rfl (i_eql_f (by omega)) (by decide) ?_))
     clear h; intro a h
     first | refine cEt0 ?_ | refine cE0 ?_
     repeat refine cS0 ?_
     refine c_condF h rfl ?_
     first | refine cKt0 ?_ | refine cK0 ?_
     with_reducible repeat (first | refine xa0 ?_ | refine xb0 ?_ | refine xc0 ?_ | refine xd0 ?_ | refine xe0 (by decide) ?_ | refine xf0 ?_ | refine xg0 ?_ | refine xh0 ?_ | refine xi0 ?_)
     repeat refine cS0 ?_
     refine cR0 ?_
     refine sM0 hF h rfl rfl (by decide) ?_
     clear h; intro a h
     refine i_ar64 hF h rfl rfl rfl rfl (by omega) (by omega) (by decide) ?_
     clear h; intro a h
     refine sA0 hF h rfl rfl (by decide) ?_
     clear h; intro a h
     refine cE0 ?_
     refine ⟨16 - (j + 1), by omega, j + 1, rfl, by omega, ?_, (h.sub (by repeat (first | exact trivial | refine ⟨rfl, ?_⟩))), H⟩
     intro i hi e
     by_cases hij : i = j
     · subst hij; exact he (by rw [e])
     · exact hno i (by omega) e
 · repeat refine cS0 ?_
   refine cR0 ?_
   refine sM0 hF h rfl rfl (by decide) ?_
   clear h; intro a h
   (first | (refine iC0 hF h rfl rfl rfl (i_lss_t (by omega)) (by decide) ?_) | (refine iC0 hF h rfl rfl rfl (i_lss_f (by omega)) (by decide) ?_))
   clear h; intro a h
   first | refine cEt0 ?_ | refine cE0 ?_
   repeat refine cS0 ?_
   refine c_condF h rfl ?_
   refine c_exit ?_
   with_reducible repeat (first | refine xa0 ?_ | refine xb0 ?_ | refine xc0 ?_ | refine xd0 ?_ | refine xe0 (by decide) ?_ | refine xf0 ?_ | refine xg0 ?_ | refine xh0 ?_ | refine xi0 ?_)
   repeat refine cS0 ?_
   refine cR0 ?_
   refine sA0 hF h rfl rfl (by decide) ?_
   clear h; intro a h
   first | refine cEt0 ?_ | refine cE0 ?_
   refine c_ret ?_
   with_reducible repeat (first | refine xa0 ?_ | refine xb0 ?_ | refine xc0 ?_ | refine xd0 ?_ | refine xe0 (by decide) ?_ | refine xf0 ?_ | refine xg0 ?_ | refine xh0 ?_ | refine xi0 ?_)
   refine leave (fn := Tryz.f56) h Tryz.results56 (.tmp rfl (.nil)) ?_
   have hd : digitI x = -1 := by
    unfold digitI
    rw [digit_find x fun i hi => hno i (by omega)]
   exact ⟨_, rfl, by rw [hd]; rfl, H.done⟩
end Go.Proofs.YtjlmpghcjgbfjaaGreatDoor.Cw
namespace Go.Proofs.YtjlmpghcjgbfjaaGreatDoor.Cw
open Go Go.RowKit Go.Proofs Ex Cd
set_option maxRecDepth 100000
def isD (x : UInt8) : Bool := digs.contains x
theorem has_ret (b : Nat) (x : UInt8) (w : World) (hc : w.cell? ⟨b, x.toNat, none⟩ = some (.bool (isD x))) : Rets Tryz.prog 89 [ptr b 0, byt x] w fun v w' => v = .bool (isD x) ∧ Below w.heap.size w w' := by
 refine Calls.mono (Tryz.asciiSet_contains b x (isD x) w hc) ?_
 rintro e w' ⟨rfl, rfl⟩
 exact ⟨_, rfl, rfl, Below.refl _ _⟩
theorem trimL_ret (s : List UInt8) (b : Nat) (w0 : World) (hb : b < w0.heap.size) (hc : ∀ x : UInt8, w0.cell? ⟨b, x.toNat, none⟩ = some (.bool (isD x))) :
 Rets Tryz.prog 73 [str s, ptr b 0] w0 fun u w' => (∃ t, u = str t ∧ (t = [] ↔ s.all isD = true)) ∧ Below w0.heap.size w0 w' := by
 refine enter Tryz.func73 rfl (Nat.le_of_ble_eq_true rfl) ?_
 intro a h; rw [Tryz.ntmps73] at h
 have hF := Fd.wide; have H := St.begin w0
 repeat refine cS0 ?_
 refine cR0 ?_
 refine sA0 hF h rfl rfl (by decide) ?_
 clear h; intro a h
 first | refine cEt0 ?_ | refine cE0 ?_
 repeat refine cS0 ?_
 refine c_block ?_
 refine c_loopN (fun q a' w' => ∃ t, q = t.length ∧ t.all isD = s.all isD ∧ Fr 16 [] [(1, ptr b 0), (0, str t)] a' ∧ St w0.heap.size w0 [] w') s.length ⟨s, rfl, rfl, (h.sub (by repeat (first | exact trivial | refine ⟨rfl, ?_⟩))), H⟩ ?_
 clear h H
 rintro q a w ⟨t, rfl, hall, h, H⟩
 have hnl : ([] : List UInt8).length = 0 := rfl
 cases t with
 | nil =>
  repeat refine cS0 ?_
  refine cR0 ?_
  refine sM0 hF h rfl rfl (by decide) ?_
  clear h; intro a h
  (first | (refine i_len hF h rfl rfl (by decide) ?_) | (refine i_lenS hF h rfl rfl (by decide) ?_))
  clear h; intro a h
  (first | (refine iC0 hF h rfl rfl rfl (i_gtr_t (by omega)) (by decide) ?_) | (refine iC0 hF h rfl rfl rfl (i_gtr_f (by omega)) (by decide) ?_))
  clear h; intro a h
  first | refine cEt0 ?_ | refine cE0 ?_
  repeat refine cS0 ?_
  refine c_condF h rfl ?_
  refine c_exit ?_
  with_reducible repeat (first | refine xa0 ?_ | refine xb0 ?_ | refine xc0 ?_ | refine xd0 ?_ | refine xe0 (by decide) ?_ | refine xf0 ?_ | refine xg0 ?_ | refine xh0 ?_ | refine xi0 ?_)
  repeat refine cS0 ?_
  refine cR0 ?_
  refine sM0 hF h rfl rfl (by decide) ?_
  clear h; intro a h
  refine sA0 hF h rfl rfl (by decide) ?_
  clear h; intro a h
  first | refine cEt0 ?_ | refine cE0 ?_
  refine c_ret ?_
  with_reducible repeat (first | refine xa0 ?_ | refine xb0 ?_ | refine xc0 ?_ | refine xd0 ?_ | refine xe0 (by decide) ?_ | refine xf0 ?_ | refine xg0 ?_ | refine xh0 ?_ | refine xi0 ?_)
  refine leave (fn := Tryz.f73) h Tryz.results73 (.tmp rfl (.nil)) ?_
  exact ⟨_, rfl, ⟨[], rfl, by rw [← hall]; simp⟩, H.done⟩
 | cons x t =>
  have hlen : (x :: t).length = t.length + 1 := rfl
  repeat refine cS0 ?_
  refine cR0 ?_
  refine sM0 hF h rfl rfl (by decide) ?_
  clear h; intro a h
  (first | (refine i_len hF h rfl rfl (by decide) ?_) | (refine i_lenS hF h rfl rfl (by decide) ?_))
  clear h; intro a h
  (first | (refine iC0 hF h rfl rfl rfl (i_gtr_t (by omega)) (by decide) ?_) | (refine iC0 hF h rfl rfl rfl (i_gtr_f (by omega)) (by decide) ?_))
  clear h; intro a h
  first | refine cEt0 ?_ | refine cE0 ?_
  repeat refine cS0 ?_
  refine c_condT h rfl ?_
  first | refine cKt0 ?_ | refine cK0 ?_
  repeat refine cS0 ?_
  refine c_block ?_
  cases hx : isD x with
  | false =>
   repeat refine cS0 ?_
   refine cR0 ?_
   refine sM0 hF h rfl rfl (by decide) ?_
   clear h; intro a h
   refine sM0 hF h rfl rfl (by decide) ?_
   clear h; intro a h
   refine i_indexStr hF h rfl rfl rfl rfl (by decide) ?_
   clear h; intro a h
   refine i_call hF h rfl (has_ret b x _ ((H.below.cell (p := ⟨b, x.toNat, none⟩) hb).trans (hc x))) rfl (by decide) ?_
   clear h; rintro _ w ⟨rfl, hb⟩ a h; replace H := H.call hb; clear hb
   rw [hx] at h
   refine i_not hF h rfl rfl (by decide) ?_
   clear h; intro a h; try simp only [Bool.not_false] at h
   first | refine cEt0 ?_ | refine cE0 ?_
   repeat refine cS0 ?_
   refine c_condT h rfl ?_
   refine c_exit ?_
   with_reducible repeat (first | refine xa0 ?_ | refine xb0 ?_ | refine xc0 ?_ | refine xd0 ?_ | refine xe0 (by decide) ?_ | refine xf0 ?_ | refine xg0 ?_ | refine xh0 ?_ | refine xi0 ?_)
   repeat refine cS0 ?_
   refine cR0 ?_
   refine sM0 hF h rfl rfl (by decide) ?_
   clear h; intro a h
   refine sA0 hF h rfl rfl (by decide) ?_
   clear h; intro a h
   first | refine cEt0 ?_ | refine cE0 ?_
   refine c_ret ?_
   with_reducible repeat (first | refine xa0 ?_ | refine xb0 ?_ | refine xc0 ?_ | refine xd0 ?_ | refine xe0 (by decide) ?_ | refine xf0 ?_ | refine xg0 ?_ | refine xh0 ?_ | refine xi0 ?_)
   refine leave (fn := Tryz.f73) h Tryz.results73 (.tmp rfl (.nil)) ?_
   refine ⟨_, rfl, ⟨x :: t, rfl, ?_⟩, H.done⟩
   rw [← hall]; simp [hx]
  | true =>
   repeat refine cS0 ?_
   refine cR0 ?_
   refine sM0 hF h rfl rfl (by decide) ?_
   clear h; intro a h
   refine sM0 hF h rfl rfl (by decide) ?_
   clear h; intro a h
   refine i_indexStr hF h rfl rfl rfl rfl (by decide) ?_
   clear h; intro a h
   refine i_call hF h rfl (has_ret b x _ ((H.below.cell (p := ⟨b, x.toNat, none⟩) hb).trans (hc x))) rfl (by decide) ?_
   clear h; rintro _ w ⟨rfl, hb⟩ a h; replace H := H.call hb; clear hb
   rw [hx] at h
   refine i_not hF h rfl rfl (by decide) ?_
   clear h; intro a h; try simp only [Bool.not_true] at h
   first | refine cEt0 ?_ | refine cE0 ?_
   repeat refine cS0 ?_
   refine c_condF h rfl ?_
   first | refine cKt0 ?_ | refine cK0 ?_
   repeat refine cS0 ?_
   refine cR0 ?_
   refine sM0 hF h rfl rfl (by decide) ?_
   clear h; intro a h
   have hone : 1 ≤ (x :: t).length := by simp
   refine i_sliceS (i := 1) (j := (x :: t).length) hF h rfl rfl ⟨.i64, rfl⟩ rfl hone (Nat.le_refl _) (by decide) ?_
   clear h; intro a h; rw [List.take_length, show (x :: t).drop 1 = t from rfl] at h
   refine sA0 hF h rfl rfl (by decide) ?_
   clear h; intro a h
   refine cE0 ?_
   with_reducible repeat (first | refine xa0 ?_ | refine xb0 ?_ | refine xc0 ?_ | refine xd0 ?_ | refine xe0 (by decide) ?_ | refine xf0 ?_ | refine xg0 ?_ | refine xh0 ?_ | refine xi0 ?_)
   refine ⟨t.length, by simp, t, rfl, ?_, (h.sub (by repeat (first | exact trivial | refine ⟨rfl, ?_⟩))), H⟩
   rw [← hall]; simp [hx]
theorem trimR_ret (s : List UInt8) (hs : s.length ≤ 100000) (b : Nat) (w0 : World) (hb : b < w0.heap.size) (hc : ∀ x : UInt8, w0.cell? ⟨b, x.toNat, none⟩ = some (.bool (isD x))) :
 Rets Tryz.prog 74 [str s, ptr b 0] w0 fun u w' => (∃ t, u = str t ∧ t.all isD = s.all isD ∧ t.length ≤ s.length) ∧ Below w0.heap.size w0 w' := by
 refine enter Tryz.func74 rfl (Nat.le_of_ble_eq_true rfl) ?_
 intro a h; rw [Tryz.ntmps74] at h
 have hF := Fd.wide; have H := St.begin w0
 repeat refine cS0 ?_
 refine cR0 ?_
 refine sA0 hF h rfl rfl (by decide) ?_
 clear h; intro a h
 first | refine cEt0 ?_ | refine cE0 ?_
 repeat refine cS0 ?_
 refine c_block ?_
 refine c_loopN (fun q a' w' => ∃ t, q = t.length ∧ t.length ≤ s.length ∧ t.all isD = s.all isD ∧ Fr 22 [] [(1, ptr b 0), (0, str t)] a' ∧ St w0.heap.size w0 [] w') s.length ⟨s, rfl, Nat.le_refl _, rfl, (h.sub (by repeat (first | exact trivial | refine ⟨rfl, ?_⟩))), H⟩ ?_
 clear h H
 rintro q a w ⟨t, rfl, htl, hall, h, H⟩
 have hnl : ([] : List UInt8).length = 0 := rfl
 obtain rfl | ⟨t, x, rfl⟩ : t = [] ∨ ∃ t' x, t = t' ++ [x] := by
  rcases List.eq_nil_or_concat t with h | ⟨a, b, h⟩
  · exact .inl h
  · exact .inr ⟨a, b, by rw [h, List.concat_eq_append]⟩
 · repeat refine cS0 ?_
   refine cR0 ?_
   refine sM0 hF h rfl rfl (by decide) ?_
   clear h; intro a h
   (first | (refine i_len hF h rfl rfl (by decide) ?_) | (refine i_lenS hF h rfl rfl (by decide) ?_))
   clear h; intro a h
   (first | (refine iC0 hF h rfl rfl rfl (i_gtr_t (by omega)) (by decide) ?_) | (refine iC0 hF h rfl rfl rfl (i_gtr_f (by omega)) (by decide) ?_))
   clear h; intro a h
   first | refine cEt0 ?_ | refine cE0 ?_
   repeat refine cS0 ?_
   refine c_condF h rfl ?_
   refine c_exit ?_
   with_reducible repeat (first | refine xa0 ?_ | refine xb0 ?_ | refine xc0 ?_ | refine xd0 ?_ | refine xe0 (by decide) ?_ | refine xf0 ?_ | refine xg0 ?_ | refine xh0 ?_ | refine xi0 ?_)
   repeat refine cS0 ?_
   refine cR0 ?_
   refine sM0 hF h rfl rfl (by decide) ?_
   clear h; intro a h
   refine sA0 hF h rfl rfl (by decide) ?_
   clear h; intro a h
   first | refine cEt0 ?_ | refine cE0 ?_
   refine c_ret ?_
   with_reducible repeat (first | refine xa0 ?_ | refine xb0 ?_ | refine xc0 ?_ | refine xd0 ?_ | refine xe0 (by decide) ?_ | refine xf0 ?_ | refine xg0 ?_ | refine xh0 ?_ | refine xi0 ?_)
   refine leave (fn := Tryz.f74) h Tryz.results74 (.tmp rfl (.nil)) ?_
   exact ⟨_, rfl, ⟨[], rfl, hall, htl⟩, H.done⟩
 · have hlen : (t ++ [x]).length = t.length + 1 := by simp
   have hlast : (t ++ [x])[t.length]? = some x := by simp
   repeat refine cS0 ?_
   refine cR0 ?_
   refine sM0 hF h rfl rfl (by decide) ?_
   clear h; intro a h
   (first | (refine i_len hF h rfl rfl (by decide) ?_) | (refine i_lenS hF h rfl rfl (by decide) ?_))
   clear h; intro a h
   (first | (refine iC0 hF h rfl rfl rfl (i_gtr_t (by omega)) (by decide) ?_) | (refine iC0 hF h rfl rfl rfl (i_gtr_f (by omega)) (by decide) ?_))
   clear h; intro a h
   first | refine cEt0 ?_ | refine cE0 ?_
   repeat refine cS0 ?_
   refine c_condT h rfl ?_
   first | refine cKt0 ?_ | refine cK0 ?_
   repeat refine cS0 ?_
   refine c_block ?_
   cases hx : isD x with
   | false =>
    repeat refine cS0 ?_
    refine cR0 ?_
    refine sM0 hF h rfl rfl (by decide) ?_
    clear h; intro a h
    refine sM0 hF h rfl rfl (by decide) ?_
    clear h; intro a h
    refine sM0 hF h rfl rfl (by decide) ?_
    clear h; intro a h
    (first | (refine i_len hF h rfl rfl (by decide) ?_) | (refine i_lenS hF h rfl rfl (by decide) ?_))
    clear h; intro a h
    refine i_ar64 hF h rfl rfl rfl rfl (by omega) (by omega) (by decide) ?_
    clear h; intro a h
    refine i_indexStr (j := t.length) hF h rfl rfl (by show some (int _) = some (int _); congr 2; omega) hlast (by decide) ?_
    clear h; intro a h
    refine i_call hF h rfl (has_ret b x _ ((H.below.cell (p := ⟨b, x.toNat, none⟩) hb).trans (hc x))) rfl (by decide) ?_
    clear h; rintro _ w ⟨rfl, hb⟩ a h; replace H := H.call hb; clear hb
    rw [hx] at h
    refine i_not hF h rfl rfl (by decide) ?_
    clear h; intro a h; try simp only [Bool.not_false] at h
    first | refine cEt0 ?_ | refine cE0 ?_
    repeat refine cS0 ?_
    refine c_condT h rfl ?_
    refine c_exit ?_
    with_reducible repeat (first | refine xa0 ?_ | refine xb0 ?_ | refine xc0 ?_ | refine xd0 ?_ | refine xe0 (by decide) ?_ | refine xf0 ?_ | refine xg0 ?_ | refine xh0 ?_ | refine xi0 ?_)
    repeat refine cS0 ?_
    refine cR0 ?_
    refine sM0 hF h rfl rfl (by decide) ?_
    clear h; intro a h
    refine sA0 hF h rfl rfl (by decide) ?_
    clear h; intro a h
    first | refine cEt0 ?_ | refine cE0 ?_
    refine c_ret ?_
    with_reducible repeat (first | refine xa0 ?_ | refine xb0 ?_ | refine xc0 ?_ | refine xd0 ?_ | refine xe0 (by decide) ?_ | refine xf0 ?_ | refine xg0 ?_ | refine xh0 ?_ | refine xi0 ?_)
    refine leave (fn := Tryz.f74) h Tryz.results74 (.tmp rfl (.nil)) ?_
    exact ⟨_, rfl, ⟨t ++ [x], rfl, hall, htl⟩, H.done⟩
   | true =>
    repeat refine cS0 ?_
    refine cR0 ?_
    refine sM0 hF h rfl rfl (by decide) ?_
    clear h; intro a h
    refine sM0 hF h rfl rfl (by decide) ?_
    clear h; intro a h
    refine sM0 hF h rfl rfl (by decide) ?_
    clear h; intro a h
    (first | (refine i_len hF h rfl rfl (by decide) ?_) | (refine i_lenS hF h rfl rfl (by decide) ?_))
    clear h; intro a h
    refine i_ar64 hF h rfl rfl rfl rfl (by omega) (by omega) (by decide) ?_
    clear h; intro a h
    refine i_indexStr (j := t.length) hF h rfl rfl (by show some (int _) = some (int _); congr 2; omega) hlast (by decide) ?_
    clear h; intro a h
    refine i_call hF h rfl (has_ret b x _ ((H.below.cell (p := ⟨b, x.toNat, none⟩) hb).trans (hc x))) rfl (by decide) ?_
    clear h; rintro _ w ⟨rfl, hb⟩ a h; replace H := H.call hb; clear hb
    rw [hx] at h
    refine i_not hF h rfl rfl (by decide) ?_
    clear h; intro a h; try simp only [Bool.not_true] at h
    first | refine cEt0 ?_ | refine cE0 ?_
    repeat refine cS0 ?_
    refine c_condF h rfl ?_
    first | refine cKt0 ?_ | refine cK0 ?_
    repeat refine cS0 ?_
    refine cR0 ?_
    refine sM0 hF h rfl rfl (by decide) ?_
    clear h; intro a h
    refine sM0 hF h rfl rfl (by decide) ?_
    clear h; intro a h
    (first | (refine i_len hF h rfl rfl (by decide) ?_) | (refine i_lenS hF h rfl rfl (by decide) ?_))
    clear h; intro a h
    refine i_ar64 hF h rfl rfl rfl rfl (by omega) (by omega) (by decide) ?_
    clear h; intro a h
    rw [show (((t ++ [x]).length : Nat) : Int) - 1 = (t.length : Int) by omega] at h
    refine i_sliceS (i := 0) (j := t.length) hF h rfl rfl rfl ⟨.i64, rfl⟩ (by omega) (by omega) (by decide) ?_
    clear h; intro a h; rw [show ((t ++ [x]).take t.length).drop 0 = t by simp] at h
    refine sA0 hF h rfl rfl (by decide) ?_
    clear h; intro a h
    refine cE0 ?_
    with_reducible repeat (first | refine xa0 ?_ | refine xb0 ?_ | refine xc0 ?_ | refine xd0 ?_ | refine xe0 (by decide) ?_ | refine xf0 ?_ | refine xg0 ?_ | refine xh0 ?_ | refine xi0 ?_)
    refine ⟨t.length, by simp, t, rfl, by omega, ?_, (h.sub (by repeat (first | exact trivial | refine ⟨rfl, ?_⟩))), H⟩
    rw [← hall]; simp [hx]
theorem zero117 : zeroOf Tryz.prog 117 = some (.agg (Array.replicate 256 (.bool false))) := by kernel_rfl
theorem set_ret (w : World) : Rets Tryz.prog 72 [str digs] w fun v w' => v = .tuple #[.agg (Lib.setCells digs), .bool true] ∧ Below w.heap.size w w' := by
 refine Calls.mono (Tryz.strings_makeASCIISet (fun w => run_zeroValue zero117 w) ⟨digs.toArray⟩ w (by decide) ?_) ?_
 · intro j b hj
   have : b ∈ digs := List.mem_of_getElem? hj
   have hall : digs.all (fun b => decide (b.toNat < 128)) = true := by decide
   simpa using List.all_eq_true.1 hall b this
 · rintro e w' ⟨rfl, rfl⟩
   exact ⟨_, rfl, rfl, (Below.refl _ _).alloc (Nat.le_refl _) _⟩
theorem allocs (w : World) (cs : Array Value) (E : TypeId) : Below w.heap.size w (w.alloc (.cells cs E)) := (Below.refl _ _).alloc (Nat.le_refl _) _
theorem trim_ret (s : List UInt8) (hs : s.length ≤ 100000) (w0 : World) : Rets Tryz.prog 54 [str s, str digs] w0 fun u w' => (∃ t, u = str t ∧ (t = [] ↔ s.all isD = true)) ∧ Below w0.heap.size w0 w' := by
 have hdl : digs.length = 16 := rfl
 have hset : ∀ {b : Nat} {w : World} {n0 : Nat} {w0 : World}, St n0 w0 [(b, Obj.cells (Lib.setCells digs).toList.toArray 117 (0, 0))] w → ∀ x : UInt8, w.cell? ⟨b, x.toNat, none⟩ = some (.bool (isD x)) := fun H x => by
  rw [cell_of (H.mem (List.Mem.head _)), Array.toArray_toList, Lib.setCells_at]
  rfl
 refine enter Tryz.func54 rfl (Nat.le_of_ble_eq_true rfl) ?_
 intro a h; rw [Tryz.ntmps54] at h
 have hF := Fd.wide; have H := St.begin w0
 repeat refine cS0 ?_
 refine cR0 ?_
 refine sA0 hF h rfl rfl (by decide) ?_
 clear h; intro a h
 first | refine cEt0 ?_ | refine cE0 ?_
 cases hcs : s with
 | nil =>
  subst hcs
  have hs0 : (([] : List UInt8) == []) = true := rfl
  repeat refine cS0 ?_
  refine cR0 ?_
  refine sM0 hF h rfl rfl (by decide) ?_
  clear h; intro a h
  refine i_eqS hF h rfl rfl rfl hs0 (by decide) ?_
  clear h; intro a h
  refine sM0 hF h rfl rfl (by decide) ?_
  clear h; intro a h
  first | (refine sK0 hF h rfl (by decide) ?_; clear h; intro a h) | (refine sM0 hF h rfl rfl (by decide) ?_; clear h; intro a h)
  first | (refine sK0 hF h rfl (by decide) ?_; clear h; intro a h) | (refine i_eqS hF h rfl rfl rfl rfl (by decide) ?_; clear h; intro a h)
  refine s_pick hF h rfl rfl rfl (by decide) ?_
  clear h; intro a h
  first | refine cEt0 ?_ | refine cE0 ?_
  repeat refine cS0 ?_
  refine c_condT h rfl ?_
  repeat refine cS0 ?_
  refine cR0 ?_
  refine sM0 hF h rfl rfl (by decide) ?_
  clear h; intro a h
  refine sA0 hF h rfl rfl (by decide) ?_
  clear h; intro a h
  first | refine cEt0 ?_ | refine cE0 ?_
  refine c_ret ?_
  with_reducible repeat (first | refine xa0 ?_ | refine xb0 ?_ | refine xc0 ?_ | refine xd0 ?_ | refine xe0 (by decide) ?_ | refine xf0 ?_ | refine xg0 ?_ | refine xh0 ?_ | refine xi0 ?_)
  refine leave (fn := Tryz.f54) h Tryz.results54 (.tmp rfl (.nil)) ?_
  exact ⟨_, rfl, ⟨[], rfl, by simp⟩, H.done⟩
 | cons x0 s0 =>
  rw [← hcs]
  have hs0 : (s == []) = false := by rw [hcs]; rfl
  repeat refine cS0 ?_
  refine cR0 ?_
  refine sM0 hF h rfl rfl (by decide) ?_
  clear h; intro a h
  refine i_eqS hF h rfl rfl rfl hs0 (by decide) ?_
  clear h; intro a h
  refine sM0 hF h rfl rfl (by decide) ?_
  clear h; intro a h
  first | (refine sK0 hF h rfl (by decide) ?_; clear h; intro a h) | (refine sM0 hF h rfl rfl (by decide) ?_; clear h; intro a h)
  first | (refine sK0 hF h rfl (by decide) ?_; clear h; intro a h) | (refine i_eqS hF h rfl rfl rfl rfl (by decide) ?_; clear h; intro a h)
  refine s_pick hF h rfl rfl rfl (by decide) ?_
  clear h; intro a h
  first | refine cEt0 ?_ | refine cE0 ?_
  repeat refine cS0 ?_
  refine c_condF h rfl ?_
  first | refine cKt0 ?_ | refine cK0 ?_
  repeat refine cS0 ?_
  refine cR0 ?_
  refine sM0 hF h rfl rfl (by decide) ?_
  clear h; intro a h
  (first | (refine i_len hF h rfl rfl (by decide) ?_) | (refine i_lenS hF h rfl rfl (by decide) ?_))
  clear h; intro a h
  (first | (refine iC0 hF h rfl rfl rfl (i_eql_t (by omega)) (by decide) ?_) | (refine iC0 hF h rfl rfl rfl (i_eql_f (by omega)) (by decide) ?_))
  clear h; intro a h
  refine sM0 hF h rfl rfl (by decide) ?_
  clear h; intro a h
  first | (refine sK0 hF h rfl (by decide) ?_; clear h; intro a h) | (refine sM0 hF h rfl rfl (by decide) ?_; clear h; intro a h)
  first | (refine sK0 hF h rfl (by decide) ?_; clear h; intro a h) | (refine i_indexStr hF h rfl rfl rfl rfl (by decide) ?_; clear h; intro a h)
  first | (refine sK0 hF h rfl (by decide) ?_; clear h; intro a h) | ((first | (refine iC0 hF h rfl rfl rfl (i_lss_t (by omega)) (by decide) ?_) | (refine iC0 hF h rfl rfl rfl (i_lss_f (by omega)) (by decide) ?_)); clear h; intro a h)
  refine s_pick hF h rfl rfl rfl (by decide) ?_
  clear h; intro a h
  first | refine cEt0 ?_ | refine cE0 ?_
  repeat refine cS0 ?_
  refine c_condF h rfl ?_
  first | refine cKt0 ?_ | refine cK0 ?_
  repeat refine cS0 ?_
  refine cR0 ?_
  refine sM0 hF h rfl rfl (by decide) ?_
  clear h; intro a h
  refine i_call hF h rfl (set_ret _) rfl (by decide) ?_
  clear h; rintro _ w ⟨rfl, hb⟩ a h; replace H := H.call hb; clear hb
  refine sM0 hF h rfl rfl (by decide) ?_
  clear h; intro a h
  refine iX0 hF h rfl rfl rfl (by decide) ?_
  clear h; intro a h
  refine iX0 hF h rfl rfl rfl (by decide) ?_
  clear h; intro a h
  refine s_alloc hF h H rfl zero117 rfl (by decide) ?_
  clear h H; intro a w b5 _ h H
  refine i_storeA (vs := (Lib.setCells digs).toList) (cs := (Array.replicate 256 (Value.bool false)).toList) (cs' := (Lib.setCells digs).toList) hF h H rfl rfl (by rfl) (by rw [Array.length_toList, Lib.setCells_size]) (by have := Lib.setCells_one digs; rw [← Array.all_toList] at this; exact this) (by repeat (first | exact Upd.here | apply Upd.there | apply Upd.app)) (by simp []) (by simp) ?_
  clear H; intro w H
  refine sA0 hF h rfl rfl (by decide) ?_
  clear h; intro a h
  first | refine cEt0 ?_ | refine cE0 ?_
  repeat refine cS0 ?_
  refine cR0 ?_
  refine sM0 hF h rfl rfl (by decide) ?_
  clear h; intro a h
  first | refine cEt0 ?_ | refine cE0 ?_
  repeat refine cS0 ?_
  refine c_condT h rfl ?_
  repeat refine cS0 ?_
  refine cR0 ?_
  refine sM0 hF h rfl rfl (by decide) ?_
  clear h; intro a h
  refine i_call hF h rfl (trimR_ret s hs b5 _ (lt_of_heap (H.mem (List.Mem.head _))) (hset H)) rfl (by decide) ?_
  clear h; rintro _ w ⟨⟨t, rfl, htall, htl⟩, hb⟩ a h; replace H := H.call hb; clear hb
  refine i_call hF h rfl (trimL_ret t b5 _ (lt_of_heap (H.mem (List.Mem.head _))) (hset H)) rfl (by decide) ?_
  clear h; rintro _ w ⟨⟨t', rfl, hnil⟩, hb⟩ a h; replace H := H.call hb; clear hb
  refine sA0 hF h rfl rfl (by decide) ?_
  clear h; intro a h
  first | refine cEt0 ?_ | refine cE0 ?_
  refine c_ret ?_
  with_reducible repeat (first | refine xa0 ?_ | refine xb0 ?_ | refine xc0 ?_ | refine xd0 ?_ | refine xe0 (by decide) ?_ | refine xf0 ?_ | refine xg0 ?_ | refine xh0 ?_ | refine xi0 ?_)
  refine leave (fn := Tryz.f54) h Tryz.results54 (.tmp rfl (.nil)) ?_
  exact ⟨_, rfl, ⟨t', rfl, by rw [hnil, htall]⟩, H.done⟩
theorem index_digit (x : UInt8) : Lib.indexByte digs x = digitI x := by
 have := upto (fun x => decide (Lib.indexByte digs (UInt8.ofNat x) = digitI (UInt8.ofNat x))) 256 (by decide +kernel) x.toNat x.toNat_lt
 have := of_decide_eq_true this
 simpa using this
theorem index_ret (x : UInt8) (w : World) : Rets Tryz.prog 55 [str digs, byt x] w fun v w' => v = int (digitI x) ∧ Below w.heap.size w w' := by
 refine Calls.mono (Tryz.strings_IndexByte ⟨digs.toArray⟩ (x.toNat : Int) w) ?_
 rintro e w' ⟨rfl, rfl⟩
 refine ⟨_, rfl, ?_, Below.refl _ _⟩
 have e : ((x.toNat : Int)).toNat.toUInt8 = x := by simp
 rw [e, ← index_digit]
theorem cut_ret (s : List UInt8) (w : World) : Rets Tryz.prog 53 [str s, str [48, 120]] w fun v w' => v = .tuple #[str (Lib.trimPrefix s [48, 120]), .bool (Lib.hasPrefix s [48, 120])] ∧ Below w.heap.size w w' := by
 refine Calls.mono (Tryz.strings_CutPrefix ⟨s.toArray⟩ ⟨#[48, 120]⟩ w) ?_
 rintro e w' ⟨rfl, rfl⟩
 exact ⟨_, rfl, rfl, Below.refl _ _⟩
end Go.Proofs.YtjlmpghcjgbfjaaGreatDoor.Cw
namespace Go.Proofs.YtjlmpghcjgbfjaaGreatDoor.Cw
open Go Go.RowKit Go.Proofs Ex Cd
set_option maxRecDepth 100000
theorem find_none (l : List (Nat × Info)) (op : Nat) (h : ∀ y ∈ l, y.1 ≠ op) : find l op = none := by
 unfold find
 rw [List.find?_eq_none.2 fun y hy => by simpa using h y hy]
 rfl
theorem frMono {N : Nat} {ds : List Deferred} {T T' : List (Nat × Value)} {a : Act} (h : Fr N ds T a) (hs : ∀ t v, get t T' = some v → get t T = some v) : Fr N ds T' a := ⟨h.size, h.defers, fun t v hv => h.here t v (hs t v hv)⟩
section
variable {F : Fence} {n : Nat} {P : Program} {Q : Exit → Act → World → Prop} {a : Act} {w : World} {N : Nat} {ds : List Deferred} {T : List (Nat × Value)} {n0 : Nat} {w0 : World}
/-- what a case of the table hands back -/
def Fin (N : Nat) (ds : List Deferred) (T : List (Nat × Value)) (n0 : Nat) (w0 : World) (b2 : Nat) (Q : Exit → Act → World → Prop) (v : Value) : Prop :=
 ∀ (out : List Value) a' w', out.length = 6 → .agg out.toArray = v → Fr N ds T a' → St n0 w0 [(b2, .cells out.toArray 42 (0, 0))] w' → Q .ret a' w'
theorem sw_intro {v : Value} {c : Code} (N : Nat) (ds : List Deferred) (T : List (Nat × Value)) (n0 : Nat) (w0 : World) (b2 : Nat) (K : Fin N ds T n0 w0 b2 Q v → c.wpIn F n P Q a w) (hfin : Fin N ds T n0 w0 b2 Q v) : c.wpIn F n P Q a w := K hfin
/-- one case: is it this op? -/
theorem sw_step {v : Value} {b2 id1 id2 d1 d2 d3 : Nat} {ty1 ty2 ty3 ty4 t5 : TypeId} {p1 p2 p3 p4 : String} {af1 af2 af3 af4 : Array Edge} {x : UInt8} {c : Int} {parts : List (Nat × Operand)} {vs : List (Nat × Value)} {out zero : List Value} {places : List (Nat × Nat)} {rest : Code}
 [StructTy P 42 places] [hz : ZeroOf P 42 zero] [ag : AggTy P 42 6] (hF : Ex.Fd F) (h : Fr N ds T a) (H : St n0 w0 [(b2, .cells zero.toArray 42 (0, 0))] w) (hx : get 3 T = some (byt x)) (h2 : get 2 T = some (ptr b2 0))
 (hd : d1 < N ∧ d2 < N ∧ d3 < N) (hT : get d1 T = none ∧ get d2 T = none ∧ get d3 T = none) (_ : evp T parts = some vs) (hb : fillF (fun i => nth places i) zero vs = some out) (h6 : out.length = 6 ∧ zero.length = 6) (h1 : out.all (·.oneCell') = true)
 (hpar : ∀ a' : Act, Fr N ds ((d2, .bool true) :: (d1, .bool true) :: T) a' → evp ((d2, .bool true) :: (d1, .bool true) :: T) parts = some vs)
 (fin : Fin N ds T n0 w0 b2 Q v) (hok : (x.toNat : Int) = c → .agg out.toArray = v) (Kf : ¬ (x.toNat : Int) = c → ∀ a', Fr N ds T a' → rest.wpIn F n P Q a' w) :
 (Code.seq (.region id1 [⟨some d1, .binOp .eql 5 (.tmp 3) (.const (.int .u8 c)) t5, ty1, p1, af1, none⟩, ⟨some d2, .assign (.tmp d1), ty2, p2, af2, none⟩].toArray false)
  (.cond (.tmp d2) (.seq (.region id2 [⟨some d3, .build 42 parts.toArray, ty3, p3, af3, none⟩, ⟨none, .store 42 (.tmp 2) (.tmp d3), ty4, p4, af4, none⟩].toArray false) .ret) rest)).wpIn F n P Q a w := by
 have g : ∀ {t u : Nat} {z r : Value} {T : List (Nat × Value)}, get u T = none → get t T = some r → get t ((u, z) :: T) = some r := by
  intro t u z r T hn hs
  rw [get_cons]
  by_cases e : t = u
  · subst e; rw [hn] at hs; cases hs
  · rw [if_neg e]; exact hs
 refine cS0 (cR0 ?_)
 by_cases hc : (x.toNat : Int) = c
 · refine iC0 hF h rfl hx rfl (i_eql_t hc) hd.1 ?_
   intro a1 h1'
   refine sA0 hF h1' rfl (v := .bool true) (by show get d1 _ = _; rw [get_cons, if_pos rfl]) hd.2.1 ?_
   intro a2 h2'
   refine cEt0 ?_
   refine c_condT h2' (by show get d2 _ = _; rw [get_cons, if_pos rfl]) ?_
   refine cS0 (cR0 ?_)
   refine i_build hF h2' rfl (hpar _ h2') hb hd.2.2 ?_
   intro a3 h3'
   have hg2 : get 2 ((d3, .agg out.toArray) :: (d2, .bool true) :: (d1, .bool true) :: T) = some (ptr b2 0) := by
    rw [get_cons]
    by_cases e : 2 = d3
    · rw [← e] at hT; rw [hT.2.2] at h2; cases h2
    · rw [if_neg e, get_cons]
      by_cases e2 : 2 = d2
      · rw [← e2] at hT; rw [hT.2.1] at h2; cases h2
      · rw [if_neg e2]; exact g hT.1 h2
   refine i_storeA (vs := out) (cs := zero) (cs' := out) hF h3' H rfl hg2 (by show get d3 _ = _; rw [get_cons, if_pos rfl]) h6.1 h1 .here (by simp [h6.2]) (by omega) ?_
   intro w' H'
   refine cEt0 (c_ret (fin out _ _ h6.1 (hok hc) ?_ H'))
   refine frMono h3' fun t r hr => ?_
   rw [get_cons]
   by_cases e : t = d3
   · subst e; rw [hT.2.2] at hr; cases hr
   · rw [if_neg e, get_cons]
     by_cases e2 : t = d2
     · subst e2; rw [hT.2.1] at hr; cases hr
     · rw [if_neg e2]; exact g hT.1 hr
 · refine iC0 hF h rfl hx rfl (i_eql_f hc) hd.1 ?_
   intro a1 h1'
   refine sA0 hF h1' rfl (v := .bool false) (by show get d1 _ = _; rw [get_cons, if_pos rfl]) hd.2.1 ?_
   intro a2 h2'
   refine cEt0 ?_
   refine c_condF h2' (by show get d2 _ = _; rw [get_cons, if_pos rfl]) ?_
   refine Kf hc _ (frMono h2' fun t r hr => ?_)
   rw [get_cons]
   by_cases e2 : t = d2
   · subst e2; rw [hT.2.1] at hr; cases hr
   · rw [if_neg e2]; exact g hT.1 hr
end
theorem low_ret (x : UInt8) (w0 : World) : Rets Tryz.prog 45 [byt x] w0 fun v w' => v = .agg (cellsI ((lowI x.toNat).getD noneI)).toArray ∧ Below w0.heap.size w0 w' := by
 have hxl := x.toNat_lt
 refine enter Tryz.func45 rfl (Nat.le_of_ble_eq_true rfl) ?_
 intro a h; rw [Tryz.ntmps45] at h
 have hF := Fd.wide; have H := St.begin w0
 repeat refine cS0 ?_
 refine cR0 ?_
 refine i_alloc hF h H rfl (by decide) ?_
 clear h H; intro a w b2 _ h H
 first | refine cEt0 ?_ | refine cE0 ?_
 repeat refine cS0 ?_
 refine cR0 ?_
 refine sM0 hF h rfl rfl (by decide) ?_
 clear h; intro a h
 first | refine cEt0 ?_ | refine cE0 ?_
 repeat refine cS0 ?_
 refine c_block ?_
 have h : Fr 80 [] [(3, byt x), (2, ptr b2 0)] a := (h.sub (by repeat (first | exact trivial | refine ⟨rfl, ?_⟩)))
 refine sw_intro (v := .agg (cellsI ((lowI x.toNat).getD noneI)).toArray) 80 [] [(3, byt x), (2, ptr b2 0)] w0.heap.size w0 b2 (fun fin => ?_) ?_
 · clear hxl
   refine sw_step hF h H rfl rfl (by decide) ⟨rfl, rfl, rfl⟩ rfl rfl ⟨rfl, rfl⟩ rfl (fun _ _ => rfl) fin (fun e => by rw [show x.toNat = 0 from Int.ofNat_inj.1 e]; rfl) ?_; clear h; intro h0 a h
   refine sw_step hF h H rfl rfl (by decide) ⟨rfl, rfl, rfl⟩ rfl rfl ⟨rfl, rfl⟩ rfl (fun _ _ => rfl) fin (fun e => by rw [show x.toNat = 1 from Int.ofNat_inj.1 e]; rfl) ?_; clear h; intro h1 a h
   refine sw_step hF h H rfl rfl (by decide) ⟨rfl, rfl, rfl⟩ rfl rfl ⟨rfl, rfl⟩ rfl (fun _ _ => rfl) fin (fun e => by rw [show x.toNat = 2 from Int.ofNat_inj.1 e]; rfl) ?_; clear h; intro h2 a h
   refine sw_step hF h H rfl rfl (by decide) ⟨rfl, rfl, rfl⟩ rfl rfl ⟨rfl, rfl⟩ rfl (fun _ _ => rfl) fin (fun e => by rw [show x.toNat = 3 from Int.ofNat_inj.1 e]; rfl) ?_; clear h; intro h3 a h
   refine sw_step hF h H rfl rfl (by decide) ⟨rfl, rfl, rfl⟩ rfl rfl ⟨rfl, rfl⟩ rfl (fun _ _ => rfl) fin (fun e => by rw [show x.toNat = 4 from Int.ofNat_inj.1 e]; rfl) ?_; clear h; intro h4 a h
   refine sw_step hF h H rfl rfl (by decide) ⟨rfl, rfl, rfl⟩ rfl rfl ⟨rfl, rfl⟩ rfl (fun _ _ => rfl) fin (fun e => by rw [show x.toNat = 5 from Int.ofNat_inj.1 e]; rfl) ?_; clear h; intro h5 a h
   refine sw_step hF h H rfl rfl (by decide) ⟨rfl, rfl, rfl⟩ rfl rfl ⟨rfl, rfl⟩ rfl (fun _ _ => rfl) fin (fun e => by rw [show x.toNat = 6 from Int.ofNat_inj.1 e]; rfl) ?_; clear h; intro h6 a h
   refine sw_step hF h H rfl rfl (by decide) ⟨rfl, rfl, rfl⟩ rfl rfl ⟨rfl, rfl⟩ rfl (fun _ _ => rfl) fin (fun e => by rw [show x.toNat = 7 from Int.ofNat_inj.1 e]; rfl) ?_; clear h; intro h7 a h
   refine sw_step hF h H rfl rfl (by decide) ⟨rfl, rfl, rfl⟩ rfl rfl ⟨rfl, rfl⟩ rfl (fun _ _ => rfl) fin (fun e => by rw [show x.toNat = 8 from Int.ofNat_inj.1 e]; rfl) ?_; clear h; intro h8 a h
   refine sw_step hF h H rfl rfl (by decide) ⟨rfl, rfl, rfl⟩ rfl rfl ⟨rfl, rfl⟩ rfl (fun _ _ => rfl) fin (fun e => by rw [show x.toNat = 9 from Int.ofNat_inj.1 e]; rfl) ?_; clear h; intro h9 a h
   refine sw_step hF h H rfl rfl (by decide) ⟨rfl, rfl, rfl⟩ rfl rfl ⟨rfl, rfl⟩ rfl (fun _ _ => rfl) fin (fun e => by rw [show x.toNat = 10 from Int.ofNat_inj.1 e]; rfl) ?_; clear h; intro h10 a h
   refine sw_step hF h H rfl rfl (by decide) ⟨rfl, rfl, rfl⟩ rfl rfl ⟨rfl, rfl⟩ rfl (fun _ _ => rfl) fin (fun e => by rw [show x.toNat = 11 from Int.ofNat_inj.1 e]; rfl) ?_; clear h; intro h11 a h
   refine sw_step hF h H rfl rfl (by decide) ⟨rfl, rfl, rfl⟩ rfl rfl ⟨rfl, rfl⟩ rfl (fun _ _ => rfl) fin (fun e => by rw [show x.toNat = 16 from Int.ofNat_inj.1 e]; rfl) ?_; clear h; intro h12 a h
   refine sw_step hF h H rfl rfl (by decide) ⟨rfl, rfl, rfl⟩ rfl rfl ⟨rfl, rfl⟩ rfl (fun _ _ => rfl) fin (fun e => by rw [show x.toNat = 17 from Int.ofNat_inj.1 e]; rfl) ?_; clear h; intro h13 a h
   refine sw_step hF h H rfl rfl (by decide) ⟨rfl, rfl, rfl⟩ rfl rfl ⟨rfl, rfl⟩ rfl (fun _ _ => rfl) fin (fun e => by rw [show x.toNat = 18 from Int.ofNat_inj.1 e]; rfl) ?_; clear h; intro h14 a h
   refine sw_step hF h H rfl rfl (by decide) ⟨rfl, rfl, rfl⟩ rfl rfl ⟨rfl, rfl⟩ rfl (fun _ _ => rfl) fin (fun e => by rw [show x.toNat = 19 from Int.ofNat_inj.1 e]; rfl) ?_; clear h; intro h15 a h
   refine sw_step hF h H rfl rfl (by decide) ⟨rfl, rfl, rfl⟩ rfl rfl ⟨rfl, rfl⟩ rfl (fun _ _ => rfl) fin (fun e => by rw [show x.toNat = 20 from Int.ofNat_inj.1 e]; rfl) ?_; clear h; intro h16 a h
   refine sw_step hF h H rfl rfl (by decide) ⟨rfl, rfl, rfl⟩ rfl rfl ⟨rfl, rfl⟩ rfl (fun _ _ => rfl) fin (fun e => by rw [show x.toNat = 21 from Int.ofNat_inj.1 e]; rfl) ?_; clear h; intro h17 a h
   refine sw_step hF h H rfl rfl (by decide) ⟨rfl, rfl, rfl⟩ rfl rfl ⟨rfl, rfl⟩ rfl (fun _ _ => rfl) fin (fun e => by rw [show x.toNat = 22 from Int.ofNat_inj.1 e]; rfl) ?_; clear h; intro h18 a h
   refine sw_step hF h H rfl rfl (by decide) ⟨rfl, rfl, rfl⟩ rfl rfl ⟨rfl, rfl⟩ rfl (fun _ _ => rfl) fin (fun e => by rw [show x.toNat = 23 from Int.ofNat_inj.1 e]; rfl) ?_; clear h; intro h19 a h
   refine sw_step hF h H rfl rfl (by decide) ⟨rfl, rfl, rfl⟩ rfl rfl ⟨rfl, rfl⟩ rfl (fun _ _ => rfl) fin (fun e => by rw [show x.toNat = 24 from Int.ofNat_inj.1 e]; rfl) ?_; clear h; intro h20 a h
   refine sw_step hF h H rfl rfl (by decide) ⟨rfl, rfl, rfl⟩ rfl rfl ⟨rfl, rfl⟩ rfl (fun _ _ => rfl) fin (fun e => by rw [show x.toNat = 25 from Int.ofNat_inj.1 e]; rfl) ?_; clear h; intro h21 a h
   refine sw_step hF h H rfl rfl (by decide) ⟨rfl, rfl, rfl⟩ rfl rfl ⟨rfl, rfl⟩ rfl (fun _ _ => rfl) fin (fun e => by rw [show x.toNat = 26 from Int.ofNat_inj.1 e]; rfl) ?_; clear h; intro h22 a h
   refine sw_step hF h H rfl rfl (by decide) ⟨rfl, rfl, rfl⟩ rfl rfl ⟨rfl, rfl⟩ rfl (fun _ _ => rfl) fin (fun e => by rw [show x.toNat = 27 from Int.ofNat_inj.1 e]; rfl) ?_; clear h; intro h23 a h
   refine sw_step hF h H rfl rfl (by decide) ⟨rfl, rfl, rfl⟩ rfl rfl ⟨rfl, rfl⟩ rfl (fun _ _ => rfl) fin (fun e => by rw [show x.toNat = 28 from Int.ofNat_inj.1 e]; rfl) ?_; clear h; intro h24 a h
   clear fin
   refine cK0 ?_
   with_reducible repeat (first | refine xa0 ?_ | refine xb0 ?_ | refine xc0 ?_ | refine xd0 ?_ | refine xe0 (by decide) ?_ | refine xf0 ?_ | refine xg0 ?_ | refine xh0 ?_ | refine xi0 ?_)
   repeat refine cS0 ?_
   refine cR0 ?_
   refine i_build hF h rfl rfl rfl (by decide) ?_
   clear h; intro a h
   refine j_storeA hF h H rfl rfl rfl rfl rfl (by repeat (first | exact Upd.here | apply Upd.there | apply Upd.app)) (by repeat (first | exact PutAt.nil | apply PutAt.put | apply PutAt.skip)) ?_
   clear H; intro w H
   first | refine cEt0 ?_ | refine cE0 ?_
   refine c_ret ?_
   with_reducible repeat (first | refine xa0 ?_ | refine xb0 ?_ | refine xc0 ?_ | refine xd0 ?_ | refine xe0 (by decide) ?_ | refine xf0 ?_ | refine xg0 ?_ | refine xh0 ?_ | refine xi0 ?_)
   refine leave (fn := Tryz.f45) h Tryz.results45 (.ownA rfl H (by repeat (first | exact mh1 | apply mt1 | apply ma1)) (by repeat (first | exact Seg.nil | apply Seg.take | apply Seg.skip)) (.nil)) ?_
   have hno : lowI x.toNat = none := find_none _ _ (by
    intro y hy e
    have hm : y.1 ∈ (alone.take 25).map (·.1) := List.mem_map.2 ⟨y, hy, rfl⟩
    rw [e, show (alone.take 25).map (·.1) = [0, 1, 2, 3, 4, 5, 6, 7, 8, 9, 10, 11, 16, 17, 18, 19, 20, 21, 22, 23, 24, 25, 26, 27, 28] from rfl] at hm
    simp only [List.mem_cons, List.not_mem_nil, or_false] at hm
    omega)
   exact ⟨_, rfl, by rw [hno]; rfl, H.done⟩
 · rintro out a w h6 hv h H
   with_reducible repeat (first | refine xa0 ?_ | refine xb0 ?_ | refine xc0 ?_ | refine xd0 ?_ | refine xe0 (by decide) ?_ | refine xf0 ?_ | refine xg0 ?_ | refine xh0 ?_ | refine xi0 ?_)
   refine leave (fn := Tryz.f45) h Tryz.results45 (.cell rfl (load_ownA (k := 6) (vs := out) H (List.Mem.head _) (by simp [← h6]) h6) .nil) ?_
   exact ⟨_, rfl, hv, H.done⟩
theorem mid_ret (x : UInt8) (w0 : World) : Rets Tryz.prog 46 [byt x] w0 fun v w' => v = .agg (cellsI ((midI x.toNat).getD noneI)).toArray ∧ Below w0.heap.size w0 w' := by
 have hxl := x.toNat_lt
 refine enter Tryz.func46 rfl (Nat.le_of_ble_eq_true rfl) ?_
 intro a h; rw [Tryz.ntmps46] at h
 have hF := Fd.wide; have H := St.begin w0
 repeat refine cS0 ?_
 refine cR0 ?_
 refine i_alloc hF h H rfl (by decide) ?_
 clear h H; intro a w b2 _ h H
 first | refine cEt0 ?_ | refine cE0 ?_
 repeat refine cS0 ?_
 refine cR0 ?_
 refine sM0 hF h rfl rfl (by decide) ?_
 clear h; intro a h
 first | refine cEt0 ?_ | refine cE0 ?_
 repeat refine cS0 ?_
 refine c_block ?_
 have h : Fr 80 [] [(3, byt x), (2, ptr b2 0)] a := (h.sub (by repeat (first | exact trivial | refine ⟨rfl, ?_⟩)))
 refine sw_intro (v := .agg (cellsI ((midI x.toNat).getD noneI)).toArray) 80 [] [(3, byt x), (2, ptr b2 0)] w0.heap.size w0 b2 (fun fin => ?_) ?_
 · clear hxl
   refine sw_step hF h H rfl rfl (by decide) ⟨rfl, rfl, rfl⟩ rfl rfl ⟨rfl, rfl⟩ rfl (fun _ _ => rfl) fin (fun e => by rw [show x.toNat = 29 from Int.ofNat_inj.1 e]; rfl) ?_; clear h; intro h0 a h
   refine sw_step hF h H rfl rfl (by decide) ⟨rfl, rfl, rfl⟩ rfl rfl ⟨rfl, rfl⟩ rfl (fun _ _ => rfl) fin (fun e => by rw [show x.toNat = 32 from Int.ofNat_inj.1 e]; rfl) ?_; clear h; intro h1 a h
   refine sw_step hF h H rfl rfl (by decide) ⟨rfl, rfl, rfl⟩ rfl rfl ⟨rfl, rfl⟩ rfl (fun _ _ => rfl) fin (fun e => by rw [show x.toNat = 48 from Int.ofNat_inj.1 e]; rfl) ?_; clear h; intro h2 a h
   refine sw_step hF h H rfl rfl (by decide) ⟨rfl, rfl, rfl⟩ rfl rfl ⟨rfl, rfl⟩ rfl (fun _ _ => rfl) fin (fun e => by rw [show x.toNat = 49 from Int.ofNat_inj.1 e]; rfl) ?_; clear h; intro h3 a h
   refine sw_step hF h H rfl rfl (by decide) ⟨rfl, rfl, rfl⟩ rfl rfl ⟨rfl, rfl⟩ rfl (fun _ _ => rfl) fin (fun e => by rw [show x.toNat = 50 from Int.ofNat_inj.1 e]; rfl) ?_; clear h; intro h4 a h
   refine sw_step hF h H rfl rfl (by decide) ⟨rfl, rfl, rfl⟩ rfl rfl ⟨rfl, rfl⟩ rfl (fun _ _ => rfl) fin (fun e => by rw [show x.toNat = 51 from Int.ofNat_inj.1 e]; rfl) ?_; clear h; intro h5 a h
   refine sw_step hF h H rfl rfl (by decide) ⟨rfl, rfl, rfl⟩ rfl rfl ⟨rfl, rfl⟩ rfl (fun _ _ => rfl) fin (fun e => by rw [show x.toNat = 52 from Int.ofNat_inj.1 e]; rfl) ?_; clear h; intro h6 a h
   refine sw_step hF h H rfl rfl (by decide) ⟨rfl, rfl, rfl⟩ rfl rfl ⟨rfl, rfl⟩ rfl (fun _ _ => rfl) fin (fun e => by rw [show x.toNat = 53 from Int.ofNat_inj.1 e]; rfl) ?_; clear h; intro h7 a h
   refine sw_step hF h H rfl rfl (by decide) ⟨rfl, rfl, rfl⟩ rfl rfl ⟨rfl, rfl⟩ rfl (fun _ _ => rfl) fin (fun e => by rw [show x.toNat = 54 from Int.ofNat_inj.1 e]; rfl) ?_; clear h; intro h8 a h
   refine sw_step hF h H rfl rfl (by decide) ⟨rfl, rfl, rfl⟩ rfl rfl ⟨rfl, rfl⟩ rfl (fun _ _ => rfl) fin (fun e => by rw [show x.toNat = 55 from Int.ofNat_inj.1 e]; rfl) ?_; clear h; intro h9 a h
   refine sw_step hF h H rfl rfl (by decide) ⟨rfl, rfl, rfl⟩ rfl rfl ⟨rfl, rfl⟩ rfl (fun _ _ => rfl) fin (fun e => by rw [show x.toNat = 56 from Int.ofNat_inj.1 e]; rfl) ?_; clear h; intro h10 a h
   refine sw_step hF h H rfl rfl (by decide) ⟨rfl, rfl, rfl⟩ rfl rfl ⟨rfl, rfl⟩ rfl (fun _ _ => rfl) fin (fun e => by rw [show x.toNat = 57 from Int.ofNat_inj.1 e]; rfl) ?_; clear h; intro h11 a h
   refine sw_step hF h H rfl rfl (by decide) ⟨rfl, rfl, rfl⟩ rfl rfl ⟨rfl, rfl⟩ rfl (fun _ _ => rfl) fin (fun e => by rw [show x.toNat = 58 from Int.ofNat_inj.1 e]; rfl) ?_; clear h; intro h12 a h
   refine sw_step hF h H rfl rfl (by decide) ⟨rfl, rfl, rfl⟩ rfl rfl ⟨rfl, rfl⟩ rfl (fun _ _ => rfl) fin (fun e => by rw [show x.toNat = 59 from Int.ofNat_inj.1 e]; rfl) ?_; clear h; intro h13 a h
   refine sw_step hF h H rfl rfl (by decide) ⟨rfl, rfl, rfl⟩ rfl rfl ⟨rfl, rfl⟩ rfl (fun _ _ => rfl) fin (fun e => by rw [show x.toNat = 60 from Int.ofNat_inj.1 e]; rfl) ?_; clear h; intro h14 a h
   refine sw_step hF h H rfl rfl (by decide) ⟨rfl, rfl, rfl⟩ rfl rfl ⟨rfl, rfl⟩ rfl (fun _ _ => rfl) fin (fun e => by rw [show x.toNat = 61 from Int.ofNat_inj.1 e]; rfl) ?_; clear h; intro h15 a h
   refine sw_step hF h H rfl rfl (by decide) ⟨rfl, rfl, rfl⟩ rfl rfl ⟨rfl, rfl⟩ rfl (fun _ _ => rfl) fin (fun e => by rw [show x.toNat = 62 from Int.ofNat_inj.1 e]; rfl) ?_; clear h; intro h16 a h
   refine sw_step hF h H rfl rfl (by decide) ⟨rfl, rfl, rfl⟩ rfl rfl ⟨rfl, rfl⟩ rfl (fun _ _ => rfl) fin (fun e => by rw [show x.toNat = 63 from Int.ofNat_inj.1 e]; rfl) ?_; clear h; intro h17 a h
   refine sw_step hF h H rfl rfl (by decide) ⟨rfl, rfl, rfl⟩ rfl rfl ⟨rfl, rfl⟩ rfl (fun _ _ => rfl) fin (fun e => by rw [show x.toNat = 64 from Int.ofNat_inj.1 e]; rfl) ?_; clear h; intro h18 a h
   refine sw_step hF h H rfl rfl (by decide) ⟨rfl, rfl, rfl⟩ rfl rfl ⟨rfl, rfl⟩ rfl (fun _ _ => rfl) fin (fun e => by rw [show x.toNat = 65 from Int.ofNat_inj.1 e]; rfl) ?_; clear h; intro h19 a h
   refine sw_step hF h H rfl rfl (by decide) ⟨rfl, rfl, rfl⟩ rfl rfl ⟨rfl, rfl⟩ rfl (fun _ _ => rfl) fin (fun e => by rw [show x.toNat = 66 from Int.ofNat_inj.1 e]; rfl) ?_; clear h; intro h20 a h
   refine sw_step hF h H rfl rfl (by decide) ⟨rfl, rfl, rfl⟩ rfl rfl ⟨rfl, rfl⟩ rfl (fun _ _ => rfl) fin (fun e => by rw [show x.toNat = 67 from Int.ofNat_inj.1 e]; rfl) ?_; clear h; intro h21 a h
   refine sw_step hF h H rfl rfl (by decide) ⟨rfl, rfl, rfl⟩ rfl rfl ⟨rfl, rfl⟩ rfl (fun _ _ => rfl) fin (fun e => by rw [show x.toNat = 68 from Int.ofNat_inj.1 e]; rfl) ?_; clear h; intro h22 a h
   refine sw_step hF h H rfl rfl (by decide) ⟨rfl, rfl, rfl⟩ rfl rfl ⟨rfl, rfl⟩ rfl (fun _ _ => rfl) fin (fun e => by rw [show x.toNat = 69 from Int.ofNat_inj.1 e]; rfl) ?_; clear h; intro h23 a h
   refine sw_step hF h H rfl rfl (by decide) ⟨rfl, rfl, rfl⟩ rfl rfl ⟨rfl, rfl⟩ rfl (fun _ _ => rfl) fin (fun e => by rw [show x.toNat = 70 from Int.ofNat_inj.1 e]; rfl) ?_; clear h; intro h24 a h
   clear fin
   refine cK0 ?_
   with_reducible repeat (first | refine xa0 ?_ | refine xb0 ?_ | refine xc0 ?_ | refine xd0 ?_ | refine xe0 (by decide) ?_ | refine xf0 ?_ | refine xg0 ?_ | refine xh0 ?_ | refine xi0 ?_)
   repeat refine cS0 ?_
   refine cR0 ?_
   refine i_build hF h rfl rfl rfl (by decide) ?_
   clear h; intro a h
   refine j_storeA hF h H rfl rfl rfl rfl rfl (by repeat (first | exact Upd.here | apply Upd.there | apply Upd.app)) (by repeat (first | exact PutAt.nil | apply PutAt.put | apply PutAt.skip)) ?_
   clear H; intro w H
   first | refine cEt0 ?_ | refine cE0 ?_
   refine c_ret ?_
   with_reducible repeat (first | refine xa0 ?_ | refine xb0 ?_ | refine xc0 ?_ | refine xd0 ?_ | refine xe0 (by decide) ?_ | refine xf0 ?_ | refine xg0 ?_ | refine xh0 ?_ | refine xi0 ?_)
   refine leave (fn := Tryz.f46) h Tryz.results46 (.ownA rfl H (by repeat (first | exact mh1 | apply mt1 | apply ma1)) (by repeat (first | exact Seg.nil | apply Seg.take | apply Seg.skip)) (.nil)) ?_
   have hno : midI x.toNat = none := find_none _ _ (by
    intro y hy e
    have hm : y.1 ∈ ((alone.drop 25).take 25).map (·.1) := List.mem_map.2 ⟨y, hy, rfl⟩
    rw [e, show ((alone.drop 25).take 25).map (·.1) = [29, 32, 48, 49, 50, 51, 52, 53, 54, 55, 56, 57, 58, 59, 60, 61, 62, 63, 64, 65, 66, 67, 68, 69, 70] from rfl] at hm
    simp only [List.mem_cons, List.not_mem_nil, or_false] at hm
    omega)
   exact ⟨_, rfl, by rw [hno]; rfl, H.done⟩
 · rintro out a w h6 hv h H
   with_reducible repeat (first | refine xa0 ?_ | refine xb0 ?_ | refine xc0 ?_ | refine xd0 ?_ | refine xe0 (by decide) ?_ | refine xf0 ?_ | refine xg0 ?_ | refine xh0 ?_ | refine xi0 ?_)
   refine leave (fn := Tryz.f46) h Tryz.results46 (.cell rfl (load_ownA (k := 6) (vs := out) H (List.Mem.head _) (by simp [← h6]) h6) .nil) ?_
   exact ⟨_, rfl, hv, H.done⟩
theorem high_ret (x : UInt8) (w0 : World) : Rets Tryz.prog 47 [byt x] w0 fun v w' => v = .agg (cellsI ((highI x.toNat).getD noneI)).toArray ∧ Below w0.heap.size w0 w' := by
 have hxl := x.toNat_lt
 refine enter Tryz.func47 rfl (Nat.le_of_ble_eq_true rfl) ?_
 intro a h; rw [Tryz.ntmps47] at h
 have hF := Fd.wide; have H := St.begin w0
 repeat refine cS0 ?_
 refine cR0 ?_
 refine i_alloc hF h H rfl (by decide) ?_
 clear h H; intro a w b2 _ h H
 first | refine cEt0 ?_ | refine cE0 ?_
 repeat refine cS0 ?_
 refine cR0 ?_
 refine sM0 hF h rfl rfl (by decide) ?_
 clear h; intro a h
 first | refine cEt0 ?_ | refine cE0 ?_
 repeat refine cS0 ?_
 refine c_block ?_
 have h : Fr 80 [] [(3, byt x), (2, ptr b2 0)] a := (h.sub (by repeat (first | exact trivial | refine ⟨rfl, ?_⟩)))
 refine sw_intro (v := .agg (cellsI ((highI x.toNat).getD noneI)).toArray) 80 [] [(3, byt x), (2, ptr b2 0)] w0.heap.size w0 b2 (fun fin => ?_) ?_
 · clear hxl
   refine sw_step hF h H rfl rfl (by decide) ⟨rfl, rfl, rfl⟩ rfl rfl ⟨rfl, rfl⟩ rfl (fun _ _ => rfl) fin (fun e => by rw [show x.toNat = 71 from Int.ofNat_inj.1 e]; rfl) ?_; clear h; intro h0 a h
   refine sw_step hF h H rfl rfl (by decide) ⟨rfl, rfl, rfl⟩ rfl rfl ⟨rfl, rfl⟩ rfl (fun _ _ => rfl) fin (fun e => by rw [show x.toNat = 72 from Int.ofNat_inj.1 e]; rfl) ?_; clear h; intro h1 a h
   refine sw_step hF h H rfl rfl (by decide) ⟨rfl, rfl, rfl⟩ rfl rfl ⟨rfl, rfl⟩ rfl (fun _ _ => rfl) fin (fun e => by rw [show x.toNat = 80 from Int.ofNat_inj.1 e]; rfl) ?_; clear h; intro h2 a h
   refine sw_step hF h H rfl rfl (by decide) ⟨rfl, rfl, rfl⟩ rfl rfl ⟨rfl, rfl⟩ rfl (fun _ _ => rfl) fin (fun e => by rw [show x.toNat = 81 from Int.ofNat_inj.1 e]; rfl) ?_; clear h; intro h3 a h
   refine sw_step hF h H rfl rfl (by decide) ⟨rfl, rfl, rfl⟩ rfl rfl ⟨rfl, rfl⟩ rfl (fun _ _ => rfl) fin (fun e => by rw [show x.toNat = 82 from Int.ofNat_inj.1 e]; rfl) ?_; clear h; intro h4 a h
   refine sw_step hF h H rfl rfl (by decide) ⟨rfl, rfl, rfl⟩ rfl rfl ⟨rfl, rfl⟩ rfl (fun _ _ => rfl) fin (fun e => by rw [show x.toNat = 83 from Int.ofNat_inj.1 e]; rfl) ?_; clear h; intro h5 a h
   refine sw_step hF h H rfl rfl (by decide) ⟨rfl, rfl, rfl⟩ rfl rfl ⟨rfl, rfl⟩ rfl (fun _ _ => rfl) fin (fun e => by rw [show x.toNat = 84 from Int.ofNat_inj.1 e]; rfl) ?_; clear h; intro h6 a h
   refine sw_step hF h H rfl rfl (by decide) ⟨rfl, rfl, rfl⟩ rfl rfl ⟨rfl, rfl⟩ rfl (fun _ _ => rfl) fin (fun e => by rw [show x.toNat = 85 from Int.ofNat_inj.1 e]; rfl) ?_; clear h; intro h7 a h
   refine sw_step hF h H rfl rfl (by decide) ⟨rfl, rfl, rfl⟩ rfl rfl ⟨rfl, rfl⟩ rfl (fun _ _ => rfl) fin (fun e => by rw [show x.toNat = 86 from Int.ofNat_inj.1 e]; rfl) ?_; clear h; intro h8 a h
   refine sw_step hF h H rfl rfl (by decide) ⟨rfl, rfl, rfl⟩ rfl rfl ⟨rfl, rfl⟩ rfl (fun _ _ => rfl) fin (fun e => by rw [show x.toNat = 87 from Int.ofNat_inj.1 e]; rfl) ?_; clear h; intro h9 a h
   refine sw_step hF h H rfl rfl (by decide) ⟨rfl, rfl, rfl⟩ rfl rfl ⟨rfl, rfl⟩ rfl (fun _ _ => rfl) fin (fun e => by rw [show x.toNat = 88 from Int.ofNat_inj.1 e]; rfl) ?_; clear h; intro h10 a h
   refine sw_step hF h H rfl rfl (by decide) ⟨rfl, rfl, rfl⟩ rfl rfl ⟨rfl, rfl⟩ rfl (fun _ _ => rfl) fin (fun e => by rw [show x.toNat = 89 from Int.ofNat_inj.1 e]; rfl) ?_; clear h; intro h11 a h
   refine sw_step hF h H rfl rfl (by decide) ⟨rfl, rfl, rfl⟩ rfl rfl ⟨rfl, rfl⟩ rfl (fun _ _ => rfl) fin (fun e => by rw [show x.toNat = 90 from Int.ofNat_inj.1 e]; rfl) ?_; clear h; intro h12 a h
   refine sw_step hF h H rfl rfl (by decide) ⟨rfl, rfl, rfl⟩ rfl rfl ⟨rfl, rfl⟩ rfl (fun _ _ => rfl) fin (fun e => by rw [show x.toNat = 91 from Int.ofNat_inj.1 e]; rfl) ?_; clear h; intro h13 a h
   refine sw_step hF h H rfl rfl (by decide) ⟨rfl, rfl, rfl⟩ rfl rfl ⟨rfl, rfl⟩ rfl (fun _ _ => rfl) fin (fun e => by rw [show x.toNat = 95 from Int.ofNat_inj.1 e]; rfl) ?_; clear h; intro h14 a h
   refine sw_step hF h H rfl rfl (by decide) ⟨rfl, rfl, rfl⟩ rfl rfl ⟨rfl, rfl⟩ rfl (fun _ _ => rfl) fin (fun e => by rw [show x.toNat = 240 from Int.ofNat_inj.1 e]; rfl) ?_; clear h; intro h15 a h
   refine sw_step hF h H rfl rfl (by decide) ⟨rfl, rfl, rfl⟩ rfl rfl ⟨rfl, rfl⟩ rfl (fun _ _ => rfl) fin (fun e => by rw [show x.toNat = 241 from Int.ofNat_inj.1 e]; rfl) ?_; clear h; intro h16 a h
   refine sw_step hF h H rfl rfl (by decide) ⟨rfl, rfl, rfl⟩ rfl rfl ⟨rfl, rfl⟩ rfl (fun _ _ => rfl) fin (fun e => by rw [show x.toNat = 242 from Int.ofNat_inj.1 e]; rfl) ?_; clear h; intro h17 a h
   refine sw_step hF h H rfl rfl (by decide) ⟨rfl, rfl, rfl⟩ rfl rfl ⟨rfl, rfl⟩ rfl (fun _ _ => rfl) fin (fun e => by rw [show x.toNat = 243 from Int.ofNat_inj.1 e]; rfl) ?_; clear h; intro h18 a h
   refine sw_step hF h H rfl rfl (by decide) ⟨rfl, rfl, rfl⟩ rfl rfl ⟨rfl, rfl⟩ rfl (fun _ _ => rfl) fin (fun e => by rw [show x.toNat = 244 from Int.ofNat_inj.1 e]; rfl) ?_; clear h; intro h19 a h
   refine sw_step hF h H rfl rfl (by decide) ⟨rfl, rfl, rfl⟩ rfl rfl ⟨rfl, rfl⟩ rfl (fun _ _ => rfl) fin (fun e => by rw [show x.toNat = 245 from Int.ofNat_inj.1 e]; rfl) ?_; clear h; intro h20 a h
   refine sw_step hF h H rfl rfl (by decide) ⟨rfl, rfl, rfl⟩ rfl rfl ⟨rfl, rfl⟩ rfl (fun _ _ => rfl) fin (fun e => by rw [show x.toNat = 250 from Int.ofNat_inj.1 e]; rfl) ?_; clear h; intro h21 a h
   refine sw_step hF h H rfl rfl (by decide) ⟨rfl, rfl, rfl⟩ rfl rfl ⟨rfl, rfl⟩ rfl (fun _ _ => rfl) fin (fun e => by rw [show x.toNat = 253 from Int.ofNat_inj.1 e]; rfl) ?_; clear h; intro h22 a h
   refine sw_step hF h H rfl rfl (by decide) ⟨rfl, rfl, rfl⟩ rfl rfl ⟨rfl, rfl⟩ rfl (fun _ _ => rfl) fin (fun e => by rw [show x.toNat = 254 from Int.ofNat_inj.1 e]; rfl) ?_; clear h; intro h23 a h
   refine sw_step hF h H rfl rfl (by decide) ⟨rfl, rfl, rfl⟩ rfl rfl ⟨rfl, rfl⟩ rfl (fun _ _ => rfl) fin (fun e => by rw [show x.toNat = 255 from Int.ofNat_inj.1 e]; rfl) ?_; clear h; intro h24 a h
   clear fin
   refine cK0 ?_
   with_reducible repeat (first | refine xa0 ?_ | refine xb0 ?_ | refine xc0 ?_ | refine xd0 ?_ | refine xe0 (by decide) ?_ | refine xf0 ?_ | refine xg0 ?_ | refine xh0 ?_ | refine xi0 ?_)
   repeat refine cS0 ?_
   refine cR0 ?_
   refine i_build hF h rfl rfl rfl (by decide) ?_
   clear h; intro a h
   refine j_storeA hF h H rfl rfl rfl rfl rfl (by repeat (first | exact Upd.here | apply Upd.there | apply Upd.app)) (by repeat (first | exact PutAt.nil | apply PutAt.put | apply PutAt.skip)) ?_
   clear H; intro w H
   first | refine cEt0 ?_ | refine cE0 ?_
   refine c_ret ?_
   with_reducible repeat (first | refine xa0 ?_ | refine xb0 ?_ | refine xc0 ?_ | refine xd0 ?_ | refine xe0 (by decide) ?_ | refine xf0 ?_ | refine xg0 ?_ | refine xh0 ?_ | refine xi0 ?_)
   refine leave (fn := Tryz.f47) h Tryz.results47 (.ownA rfl H (by repeat (first | exact mh1 | apply mt1 | apply ma1)) (by repeat (first | exact Seg.nil | apply Seg.take | apply Seg.skip)) (.nil)) ?_
   have hno : highI x.toNat = none := find_none _ _ (by
    intro y hy e
    have hm : y.1 ∈ (alone.drop 50).map (·.1) := List.mem_map.2 ⟨y, hy, rfl⟩
    rw [e, show (alone.drop 50).map (·.1) = [71, 72, 80, 81, 82, 83, 84, 85, 86, 87, 88, 89, 90, 91, 95, 240, 241, 242, 243, 244, 245, 250, 253, 254, 255] from rfl] at hm
    simp only [List.mem_cons, List.not_mem_nil, or_false] at hm
    omega)
   exact ⟨_, rfl, by rw [hno]; rfl, H.done⟩
 · rintro out a w h6 hv h H
   with_reducible repeat (first | refine xa0 ?_ | refine xb0 ?_ | refine xc0 ?_ | refine xd0 ?_ | refine xe0 (by decide) ?_ | refine xf0 ?_ | refine xg0 ?_ | refine xh0 ?_ | refine xi0 ?_)
   refine leave (fn := Tryz.f47) h Tryz.results47 (.cell rfl (load_ownA (k := 6) (vs := out) H (List.Mem.head _) (by simp [← h6]) h6) .nil) ?_
   exact ⟨_, rfl, hv, H.done⟩
end Go.Proofs.YtjlmpghcjgbfjaaGreatDoor.Cw
namespace Go.Proofs.YtjlmpghcjgbfjaaGreatDoor.Cw
open Go Go.RowKit Go.Proofs Ex Cd
set_option maxRecDepth 100000
theorem number_ret (m : Nat) (hm : m < 100) (w : World) : Rets Tryz.prog 44 [.int .u64 m] w fun v w' => v = str (dec m) ∧ Below w.heap.size w w' := by
 refine enter Tryz.func44 rfl (Nat.le_of_ble_eq_true rfl) ?_
 intro a h; rw [Tryz.ntmps44] at h
 have hF := Fd.wide; have H := St.begin w
 repeat refine cS0 ?_
 refine cR0 ?_
 refine sA0 hF h rfl rfl (by decide) ?_
 clear h; intro a h
 first | refine cEt0 ?_ | refine cE0 ?_
 repeat refine cS0 ?_
 refine cR0 ?_
 refine sA0 hF h rfl rfl (by decide) ?_
 clear h; intro a h
 first | refine cEt0 ?_ | refine cE0 ?_
 refine c_block ?_
 refine c_loopN (fun k a' w' => ∃ (z : Nat) (acc : List UInt8), z = k ∧ z < 100 ∧ acc.length ≤ 1 ∧ (z < 10 → UInt8.ofNat (48 + z) :: acc = dec m) ∧ (10 ≤ z → z = m ∧ acc = []) ∧ Fr 17 [] [(3, str acc), (0, .int .u64 (z : Nat))] a' ∧ St _ _ [] w') m ⟨m, [], rfl, hm, by simp, fun h => by simp [dec, h], fun _ => ⟨rfl, rfl⟩, (h.sub (by repeat (first | exact trivial | refine ⟨rfl, ?_⟩))), H⟩ ?_
 clear h H
 rintro k a w ⟨z, acc, rfl, hz, hacc, h1, h2, h, H⟩
 have hbyte : Value.int .u8 (48 + ((z : Nat) : Int) % 10) = byt (UInt8.ofNat (48 + z % 10)) := by
  have e : (UInt8.ofNat (48 + z % 10)).toNat = 48 + z % 10 := by simp; omega
  rw [byt, e]; rfl
 have hone : [UInt8.ofNat (48 + z % 10)].length = 1 := rfl
 refine c_block ?_
 repeat refine cS0 ?_
 refine cR0 ?_
 refine sM0 hF h rfl rfl (by decide) ?_
 clear h; intro a h
 refine i_rem hF h rfl rfl rfl (by omega) (by omega) (by decide) ?_
 clear h; intro a h
 refine i_arU64 hF h rfl rfl rfl rfl (by omega) (by omega) (by decide) ?_
 clear h; intro a h
 refine i_conv hF h rfl rfl (wrapTo _ _ (by simp only [IntKind.min, IntKind.signed, IntKind.bits, Bool.false_eq_true, if_false]; omega) (by simp only [IntKind.max, IntKind.signed, IntKind.bits, Bool.false_eq_true, if_false]; omega)) (by decide) ?_
 clear h; intro a h
 rw [hbyte] at h
 refine i_buildSlice hF h H rfl rfl (by decide) (by decide) rfl (by decide) ?_
 clear h H; intro a w b8 _ h H
 refine i_strB hF h rfl rfl (ES_own (cs := [UInt8.ofNat (48 + z % 10)]) (H.mem (List.Mem.head _))) (by decide) ?_
 clear h; intro a h
 refine sM0 hF h rfl rfl (by decide) ?_
 clear h; intro a h
 refine i_addS hF h rfl rfl rfl (by first | omega | (simp only [List.length_cons, List.length_nil, List.length_append]; omega)) (by decide) ?_
 clear h; intro a h
 refine sA0 hF h rfl rfl (by decide) ?_
 clear h; intro a h
 first | refine cEt0 ?_ | refine cE0 ?_
 repeat refine cS0 ?_
 refine cR0 ?_
 refine sM0 hF h rfl rfl (by decide) ?_
 clear h; intro a h
 refine i_quo hF h rfl rfl rfl (by omega) (by omega) (by simp only [IntKind.max, IntKind.signed, IntKind.bits, Bool.false_eq_true, if_false]; omega) (by decide) ?_
 clear h; intro a h
 refine sA0 hF h rfl rfl (by decide) ?_
 clear h; intro a h
 first | refine cEt0 ?_ | refine cE0 ?_
 have hq : ((z : Nat) : Int) / 10 = ((z / 10 : Nat) : Int) := by omega
 rw [hq] at h
 by_cases h10 : z < 10
 · repeat refine cS0 ?_
   refine cR0 ?_
   refine sM0 hF h rfl rfl (by decide) ?_
   clear h; intro a h
   (first | (refine iC0 hF h rfl rfl rfl (i_eql_t (by omega)) (by decide) ?_) | (refine iC0 hF h rfl rfl rfl (i_eql_f (by omega)) (by decide) ?_))
   clear h; intro a h
   first | refine cEt0 ?_ | refine cE0 ?_
   repeat refine cS0 ?_
   refine c_condT h rfl ?_
   repeat refine cS0 ?_
   refine cR0 ?_
   refine sM0 hF h rfl rfl (by decide) ?_
   clear h; intro a h
   refine sA0 hF h rfl rfl (by decide) ?_
   clear h; intro a h
   first | refine cEt0 ?_ | refine cE0 ?_
   refine c_ret ?_
   with_reducible repeat (first | refine xa0 ?_ | refine xb0 ?_ | refine xc0 ?_ | refine xd0 ?_ | refine xe0 (by decide) ?_ | refine xf0 ?_ | refine xg0 ?_ | refine xh0 ?_ | refine xi0 ?_)
   refine leave (fn := Tryz.f44) h Tryz.results44 (.tmp rfl (.nil)) ?_
   have e := h1 h10
   exact ⟨_, rfl, by rw [← e, Nat.mod_eq_of_lt h10]; rfl, H.done⟩
 · repeat refine cS0 ?_
   refine cR0 ?_
   refine sM0 hF h rfl rfl (by decide) ?_
   clear h; intro a h
   (first | (refine iC0 hF h rfl rfl rfl (i_eql_t (by omega)) (by decide) ?_) | (refine iC0 hF h rfl rfl rfl (i_eql_f (by omega)) (by decide) ?_))
   clear h; intro a h
   first | refine cEt0 ?_ | refine cE0 ?_
   repeat refine cS0 ?_
   refine c_condF h rfl ?_
   refine cK0 ?_
   with_reducible repeat (first | refine xa0 ?_ | refine xb0 ?_ | refine xc0 ?_ | refine xd0 ?_ | refine xe0 (by decide) ?_ | refine xf0 ?_ | refine xg0 ?_ | refine xh0 ?_ | refine xi0 ?_)
   obtain ⟨rfl, rfl⟩ := h2 (by omega)
   refine ⟨z / 10, by omega, z / 10, [UInt8.ofNat (48 + z % 10)], rfl, by omega, by simp, fun _ => by simp [dec, h10], fun h => by omega, (h.sub (by repeat (first | exact trivial | refine ⟨rfl, ?_⟩))), (H.sub (by repeat (first | exact ln1 | exact ls1 | exact lr1 | apply lk1 | apply List.Sublist.cons | apply la1)))⟩
end Go.Proofs.YtjlmpghcjgbfjaaGreatDoor.Cw
