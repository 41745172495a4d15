/- What the callers ask of the world, and that it stays: the library's variables lie shaped as the program's start lays them; strconv's table of powers, and its two errors, read as the row lists them. -/
import Derived.Test.YthnpiimiimiijaaGreatDoorPAx0
import Derived.ChangeAgain
import Derived.Below
import Derived.Lib.LaidTab
import Derived.WalkSmall
import Derived.Test.YthnpiimiimiijaaGreatDoorShelf
namespace Go.Proofs.YthnpiimiimiijaaGreatDoor.PA
open Go.RowKit
/-- What the program and the library find in their variables. -/
structure LaidW (w : World) : Prop where
 shaped : w.ShapedOpen Tryz.prog
 tab : w.var? Tryz.prog "internal/strconv.uint64pow10" = some (Lib.pow10Tab.map fun z => Value.int .u64 z).toArray
 syn : ∃ tp p, w.var? Tryz.prog "strconv.ErrSyntax" = some #[.iface tp p]
 ran : ∃ tp p, w.var? Tryz.prog "strconv.ErrRange" = some #[.iface tp p]
theorem var_stays {w W : World} {n : String} {cs : Array Value} (hb : Below w.heap.size w W) (h : w.var? Tryz.prog n = some cs) : W.var? Tryz.prog n = some cs := by
 have h' := h
 unfold World.var? at h
 cases hg : Tryz.prog.globalNamed n with
 | none => rw [hg] at h; cases h
 | some g =>
  have hlt : g < w.heap.size := by
   rw [hg] at h
   simp only [Option.bind_some] at h
   cases hh : w.heap[g]? with
   | none => rw [hh] at h; cases h
   | some o => exact (Array.getElem?_eq_some_iff.1 hh).1
  exact var?_below hb hg hlt h'
theorem LaidW.below {w W : World} (h : LaidW w) (hb : Below w.heap.size w W) : LaidW W :=
 ⟨World.ShapedOpen.keptBut (may := fun _ => False) h.shaped (hb.frame _) (fun _ hp => hp.elim), var_stays hb h.tab, h.syn.imp fun _ ⟨p, e⟩ => ⟨p, var_stays hb e⟩, h.ran.imp fun _ ⟨p, e⟩ => ⟨p, var_stays hb e⟩⟩
end Go.Proofs.YthnpiimiimiijaaGreatDoor.PA
