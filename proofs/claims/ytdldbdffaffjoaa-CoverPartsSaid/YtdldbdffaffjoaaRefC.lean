/- Contracts of the reference for boxes, third part: what two boxes have in common, hulls. -/
import Derived.Test.YtdldbdffaffjoaaRefB
import Derived.Test.YtdldbdffaffjoaaTail
namespace Go.Proofs.Ytdldbdffaffjoaa
open Go.RowKit

/-- Two boxes have a point in common. -/
def meetB (a b : Bx) : Bool := decide (max a.lx b.lx ≤ min a.hx b.hx ∧ max a.ly b.ly ≤ min a.hy b.hy ∧ max a.lz b.lz ≤ min a.hz b.hz)
theorem meetB_iff {a b : Bx} : meetB a b = true ↔ (max a.lx b.lx ≤ min a.hx b.hx ∧ max a.ly b.ly ≤ min a.hy b.hy ∧ max a.lz b.lz ≤ min a.hz b.hz) := by unfold meetB; exact decide_eq_true_iff
def refMeetV (a b : Bx) : Value := if meetB a b = true then .tuple #[(.agg #[.int .i64 (meetX a b).lx, .int .i64 (meetX a b).ly, .int .i64 (meetX a b).lz, .int .i64 (meetX a b).hx, .int .i64 (meetX a b).hy, .int .i64 (meetX a b).hz]), .bool true] else .tuple #[(.agg #[.int .i64 0, .int .i64 0, .int .i64 0, .int .i64 0, .int .i64 0, .int .i64 0]), .bool false]

end Go.Proofs.Ytdldbdffaffjoaa
