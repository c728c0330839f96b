/- A world behind a name: what is said of it is all that is known. -/
import Derived.Test.YtmoechhfjmemaaaGreatExt
namespace Go.Proofs.YtmoechhfjmemaaaGreat
theorem world_mask {G : World → Prop} (P : World → Prop) (w : World) (hp : P w) (h : ∀ W1, P W1 → G W1) : G w := h w hp
end Go.Proofs.YtmoechhfjmemaaaGreat
