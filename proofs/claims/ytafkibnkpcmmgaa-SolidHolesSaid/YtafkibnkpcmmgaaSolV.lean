/- The example of the chapter on solids: its volume, a section, two points. -/
import Derived.Test.YtafkibnkpcmmgaaSolK3
namespace Go.Proofs.Ytafkibnkpcmmgaa
open Go.RowKit
set_option maxRecDepth 20000

def wallB : List Bx := [⟨0, 0, 0, 1000, 200, 3000⟩]
def wallH : List Bx := [⟨400, -10, 1000, 600, 210, 2000⟩]
theorem wall_solid : solidB wallB wallH = true := by decide +kernel
theorem wall_hull : hullX wallB = ⟨0, 0, 0, 1000, 200, 3000⟩ := by rfl
theorem wall_cuts0 : cutsB (wallB ++ wallH) (hullX wallB) 0 = [0, 400, 600, 1000] := by
  refine asc_ext (cutsB_asc _ _ _) (by decide) fun n => ?_
  rw [mem_cutsB, wall_hull]
  simp [wallB, wallH, Bx.lo, Bx.hi]
  omega
theorem wall_cuts1 : cutsB (wallB ++ wallH) (hullX wallB) 1 = [0, 200] := by
  refine asc_ext (cutsB_asc _ _ _) (by decide) fun n => ?_
  rw [mem_cutsB, wall_hull]
  simp [wallB, wallH, Bx.lo, Bx.hi]
  omega
theorem wall_cuts2 : cutsB (wallB ++ wallH) (hullX wallB) 2 = [0, 1000, 2000, 3000] := by
  refine asc_ext (cutsB_asc _ _ _) (by decide) fun n => ?_
  rw [mem_cutsB, wall_hull]
  simp [wallB, wallH, Bx.lo, Bx.hi]
  omega
theorem wall_vol : volI wallB wallH = 560000000 := by
  unfold volI cellsL
  rw [wall_cuts0, wall_cuts1, wall_cuts2]
  decide +kernel
theorem wall_sect : sectI wallB wallH 400 = 400000 := by
  unfold sectI cellsL
  rw [wall_cuts0, wall_cuts1, wall_cuts2]
  decide +kernel
theorem wall_in : containsS wallB wallH (ptX 400 100 1500) = true := by
  have h : coversB wallB (ptX 400 100 1500) = true := by
    rw [covers_iff (by decide) (by decide) (by decide)]
    intro P Q R h
    unfold inB ptX at h
    simp only at h
    exact ⟨_, List.mem_cons_self .., by unfold inB; simp only; omega⟩
  unfold containsS
  rw [h]
  decide +kernel
theorem wall_out : containsS wallB wallH (ptX 401 100 1500) = false := by
  unfold containsS
  rw [show (wallH.any fun h => opensB h (ptX 401 100 1500)) = true by decide +kernel]
  rfl
theorem wall_volR : volR wallB wallH = (560000000, 0) := by unfold volR; rw [wall_solid, wall_vol]; rfl
theorem wall_sectR : sectR wallB wallH 400 = (400000, 0) := by unfold sectR; rw [wall_solid, wall_sect]; rfl
theorem wall_inR : insideR wallB wallH 400 100 1500 = (true, 0) := by unfold insideR; rw [wall_solid, wall_in]; rfl
theorem wall_outR : insideR wallB wallH 401 100 1500 = (false, 0) := by unfold insideR; rw [wall_solid, wall_out]; rfl

end Go.Proofs.Ytafkibnkpcmmgaa
