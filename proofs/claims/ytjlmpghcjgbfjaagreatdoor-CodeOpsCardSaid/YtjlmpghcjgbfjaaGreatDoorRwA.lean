/-
  What the rows of this seat share: closed facts on the program; how a law's contract in the executor becomes the row's statement.
-/
import Derived.ProofKit
import Derived.OpenShut
import Derived.LaidMore
import Derived.Lay
import Derived.Carry
import Derived.ChangeSlices
import Derived.ChangeMaps5
import Derived.Stop.Joined
import Derived.Test.YtjlmpghcjgbfjaaGreatDoorRows
import Derived.Test.YtjlmpghcjgbfjaaGreatDoorK2
set_option maxRecDepth 100000
namespace Go.Proofs.YtjlmpghcjgbfjaaGreatDoor.Rw
open Go Go.ChangeShapes Go.WideShapes Go.ChangeAt Go.RowKit Go.Proofs Ex
theorem own : ownKnob Tryz.prog.godebug = none := by kernel_rfl
theorem laidOut : laidOutB Tryz.prog = true := by kernel_rfl
section
variable {H : Type} {enc : TypeId × Value → H} {P : Program}
theorem post_of_below {f : Func} {s : ChangeSpec} {apart fresh handsOn again : Bool} {W W' : World} {args : Array Value} {v : Value} {ds gs : List (DataW H)} {before pa pv : List MemPlace}
 (hW : DataW.Whole enc P f.params.toList s.vars apart W args.toList ds gs before)
 (hres : ∀ (b : Nat) (sp : Nat → Bool) (hd : Bool), DataW.TrodAll enc P W' b sp hd f.resultTypes.toList (v.resultList f.resultTypes.size) (s.fn H (ds ++ gs)).results [])
 (hargs : ∀ sp : Nat → Bool, (∀ p ∈ before, sp p.block = true) → DataW.TrodAll enc P W' 0 sp true f.params.toList args.toList (s.fn H (ds ++ gs)).args pa)
 (hvars : ∀ sp : Nat → Bool, (∀ p ∈ before, sp p.block = true) → DataW.TrodVars enc P W' sp s.vars (s.fn H (ds ++ gs)).vars pv)
 (hps : before = pa ++ pv) (hb : Below W.heap.size W W')
 (hok : ∀ (j : Nat) (t : TypeId) (r : Value), f.resultTypes[j]? = some t → (v.resultList f.resultTypes.size)[j]? = some r → Value.okWide P W' .any 0 t r) :
 s.post enc P f apart fresh handsOn again W args v W' := by
 have hlt : ∀ p ∈ before, p.block < W.heap.size := fun p hp => hW.lt p hp
 have hold : ∀ p ∈ before, (fun b => decide (b < W.heap.size)) p.block = true := fun p hp => by simpa using hlt p hp
 refine ⟨ds, gs, before, [], pa, pv, hW, hres _ _ _, hargs _ hold, hvars _ hold, World.keptBut_mono (fun p hp => ⟨hp, ?_⟩) (hb.frame (· ∈ before)), fun _ => ?_⟩
 · rw [hps, List.mem_append] at hp
   exact Or.inr hp
 · obtain ⟨_, _, _, _, _, hz, hn⟩ := hW
   refine ⟨hok, _, _, ([] ++ pa) ++ pv, ⟨[] ++ pa, pv, trodAll_append (hargs _ (fun _ _ => rfl)) (hres _ _ _), hvars _ (fun _ _ => rfl), rfl, ?_, ?_⟩, ?_⟩
   · intro b off hp
     have hin : MemPlace.cell b off ∈ before := by rw [hps]; simpa using hp
     rw [hb.frozen (hlt _ hin)]
     exact hz b off hin
   · intro ha
     have := hn ha
     rw [hps] at this
     simpa using this
   · intro p hp _
     rw [hps]
     simpa using hp
end
/-- a slice of bytes that came in -/
theorem open_bytes {H : Type} {enc : TypeId × Value → H} {W : World} {base : Nat} {t : TypeId} {v : Value} {d : DataW H} {ps : List MemPlace} (ht : Tryz.prog.underlying t = some (.slice 5))
 (hval : Value.okWide Tryz.prog W .any base t v) (hd : DataW.Trod enc Tryz.prog W 0 (fun _ => true) true t v d ps) : ∃ l : List UInt8, ES byt W v l := by
 have hd' := hd
 obtain ⟨fuel, hf⟩ := hd
 have h5 : Tryz.prog.underlying 5 = some (.int .u8) := Tryz.underlying5
 have hc : Tryz.prog.cellsOf 5 = 1 := by kernel_rfl
 rcases open_ints ht h5 hc hf with ⟨hcs, _⟩ | ⟨a, len, cap, zs, hcs, _, hl, _, hz, _, hcell, hwf⟩
 · have hv : v = .slice none 0 0 := by
    cases v <;> simp_all [Value.cells]
    simp [Value.okWide, ht, Cell.okWide, Cell.ok] at hval
   subst hv
   exact ⟨[], ES.nil _ _⟩
 · have hv : v = .slice (some a) len cap := by
    cases v <;> simp_all [Value.cells]
    simp [Value.okWide, ht, Cell.okWide, Cell.ok] at hval
   subst hv
   have hok : W.has Tryz.prog .any base a 5 cap := by
    have := hval
    simp [Value.okWide, ht, Cell.okWide, Cell.ok] at this
    exact this.2.2
   obtain ⟨_, hspot, row, cells, hsh, _⟩ := hok
   obtain ⟨b, off, spot⟩ := a
   simp only at hspot hsh
   subst hspot
   have hlt : b < W.heap.size := by
    rcases Nat.lt_or_ge b W.heap.size with h | h
    · exact h
    · simp [World.shape?, Array.getElem?_eq_none h] at hsh
   have hzl : zs.length = cap := by simpa using hz
   refine ⟨(zs.take len).map fun n => UInt8.ofNat n.toNat, some ⟨b, off, none⟩, cap, by simp; omega, by simp; omega, .inr ⟨b, off, rfl, hlt, fun j x hj => ?_⟩⟩
   rw [List.getElem?_map] at hj
   cases hzj : (zs.take len)[j]? with
   | none => rw [hzj] at hj; cases hj
   | some n =>
    rw [hzj] at hj
    simp only [Option.map_some, Option.some.injEq] at hj
    subst hj
    have hjl : j < zs.length := by
     have := (List.getElem?_eq_some_iff.1 hzj).1
     simp at this; omega
    have hn : zs[j]? = some n := by
     rw [List.getElem?_take] at hzj
     split at hzj
     · exact hzj
     · cases hzj
    have h1 := hcell j hjl
    rw [add_mk, List.getD_eq_getElem?_getD, hn] at h1
    have hw := hwf n (List.mem_of_getElem? hn)
    have hb : 0 ≤ n ∧ n < 256 := by
     simp [Lit.wf, IntKind.min, IntKind.max, IntKind.signed, IntKind.bits] at hw
     omega
    rw [h1]
    show some (Value.int .u8 n) = some (byt (UInt8.ofNat n.toNat))
    have e : (UInt8.ofNat n.toNat).toNat = n.toNat := by simp; omega
    rw [byt, e]
    congr 2; omega
end Go.Proofs.YtjlmpghcjgbfjaaGreatDoor.Rw
