/- SatTells: for all numbers, each call of sat tells what the document's function tells. No condition. -/
import Derived.Test.YtnbfnhddjekhlaaSat
namespace Go.Proofs.Ytnbfnhddjekhlaa.Pure
open Go.RowKit Go.Proofs.Ytnbfnhddjekhlaa.P Go.Proofs.YtnbfnhddjekhlaaW.PrintWords Go.Proofs.YtnbfnhddjekhlaaW.PrintLast

theorem SatTells : forebaylaw03_SatTells.Pure := by
  intro a b n _ _ _
  refine Ev.rounds (g := fun k => forebaylaw03_SatTells.f k a b n) ?_
  unfold forebaylaw03_SatTells.f
  simp only [ref_Of, ref_Add, ref_Sub, ref_Ceil, ref_grain, add_two, grain_eq, show ∀ x, sat_Of.f x = some (clampT x) from fun _ => rfl, show ∀ x y, sat_Sub.f x y = some (clampT (clampT x - clampT y)) from fun _ _ => rfl, show ∀ x y, sat_Mul.f x y = some (clampT (clampT x * clampT y)) from fun _ _ => rfl, show ∀ x y, sat_Ceil.f x y = some (ceilT (clampT x) (clampT y)) from fun _ _ => rfl, Option.bind_some, if_true]
  refine Ev.bind (ref_Mul a b) (Ev.pos rfl (Ev.bind (twice_ends a n) (Ev.bind (ref_twice a n) (Ev.pos rfl ?_))))
  exact Ev.bind head_ends (Ev.const rfl)

end Go.Proofs.Ytnbfnhddjekhlaa.Pure
