/- The engine's rule for three operations of which any may come first. No program in sight. -/
import Derived.Test.YtdenlafdbfbkoaaRev
namespace Go.Proofs.Ytdenlafdbfbkoaa
open Go.RowKit
set_option linter.unusedVariables false
set_option linter.unusedSimpArgs false

section
variable {P : Program} {n : Nat} {s : St} {w : World} {Q : Exit → St → World → Prop} {l : List Oper} {S : World → Prop} {fuel : Nat} {listed : Array Bool}
theorem wh_three (i k m : Nat) {o o2 o3 : Oper} (hi : nth l i = some o) (hi2 : nth l k = some o2) (hi3 : nth l m = some o3) (hr : Region.ready .any l.toArray listed = [i, k, m])
    (hg : gd l.toArray s o.guard = some true) (hg2 : gd l.toArray s o2.guard = some true) (hg3 : gd l.toArray s o3.guard = some true) (hd : dOk n o.dst = true) (hd2 : dOk n o2.dst = true) (hd3 : dOk n o3.dst = true)
    (hq : ST P n s w o (fun v w' => S w' ∧ WH P n l.toArray Q S fuel (listed.setIfInBounds i true) (pt o.dst v s) w'))
    (hq2 : ST P n s w o2 (fun v w' => S w' ∧ WH P n l.toArray Q S fuel (listed.setIfInBounds k true) (pt o2.dst v s) w'))
    (hq3 : ST P n s w o3 (fun v w' => S w' ∧ WH P n l.toArray Q S fuel (listed.setIfInBounds m true) (pt o3.dst v s) w')) :
    WH P n l.toArray Q S (fuel + 1) listed s w := fun a ha => by
  refine wpAnyH_all hr (by simp) fun j hj => ?_
  have hj' : j = i ∨ j = k ∨ j = m := by simpa using hj
  rcases hj' with rfl | rfl | rfl
  · unfold wpOp
    have hi' : l.toArray[j]? = some o := by rw [List.getElem?_toArray, nth_get]; exact hi
    simp only [hi']
    rw [if_pos (ha.wanted hg)]
    exact .inl (hq a ha _ _ fun v w' hk => ⟨hk.1, hk.2 _ (ha.put hd v)⟩)
  · unfold wpOp
    have hi' : l.toArray[j]? = some o2 := by rw [List.getElem?_toArray, nth_get]; exact hi2
    simp only [hi']
    rw [if_pos (ha.wanted hg2)]
    exact .inl (hq2 a ha _ _ fun v w' hk => ⟨hk.1, hk.2 _ (ha.put hd2 v)⟩)
  · unfold wpOp
    have hi' : l.toArray[j]? = some o3 := by rw [List.getElem?_toArray, nth_get]; exact hi3
    simp only [hi']
    rw [if_pos (ha.wanted hg3)]
    exact .inl (hq3 a ha _ _ fun v w' hk => ⟨hk.1, hk.2 _ (ha.put hd3 v)⟩)
theorem wc {i k m : Nat} {t u v : Sc} {o o2 o3 : Oper} (hi : nth l i = some o) (hi2 : nth l k = some o2) (hi3 : nth l m = some o3) (hr : Region.ready .any l.toArray listed = [i, k, m])
    (hg : gd l.toArray s o.guard = some true) (hg2 : gd l.toArray s o2.guard = some true) (hg3 : gd l.toArray s o3.guard = some true) (hd : dOk n o.dst = true) (hd2 : dOk n o2.dst = true) (hd3 : dOk n o3.dst = true)
    (hq : ST P n s w o (fun v w' => S w' ∧ WI t P n l.toArray Q S fuel (listed.setIfInBounds i true) (pt o.dst v s) w'))
    (hq2 : ST P n s w o2 (fun v w' => S w' ∧ WI u P n l.toArray Q S fuel (listed.setIfInBounds k true) (pt o2.dst v s) w'))
    (hq3 : ST P n s w o3 (fun x w' => S w' ∧ WI v P n l.toArray Q S fuel (listed.setIfInBounds m true) (pt o3.dst x s) w')) :
    WI (.c i k m t u v) P n l.toArray Q S (fuel + 1) listed s w := by
  unfold WI at *
  exact wh_three i k m hi hi2 hi3 hr hg hg2 hg3 hd hd2 hd3 hq hq2 hq3
end

end Go.Proofs.Ytdenlafdbfbkoaa
