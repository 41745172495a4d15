/- A device is built. -/
import Derived.Test.YthnpiimiimiijaaGreatDoorDirBuild
namespace Go.Proofs.YthnpiimiimiijaaGreatDoor.Dir
open Go Go.RowKit Go.Proofs
set_option linter.unusedVariables false
set_option linter.unusedSimpArgs false
def zeroDev : Array Value := #[.int .i64 0, .int .u8 0, .int .u8 0, .int .u8 0, .int .u8 0, .int .u8 0, .int .u8 0, .int .u8 0, .int .u8 0, .int .u8 0, .int .u8 0, .int .u8 0, .int .u8 0, .int .u8 0, .int .u8 0, .int .u8 0, .int .u8 0, .int .u8 0, .int .u8 0, .int .u8 0, .int .u8 0, .int .u8 0, .int .u8 0, .int .u8 0, .int .u8 0, .int .u8 0, .int .u8 0, .int .u8 0, .int .u8 0, .int .u8 0, .int .u8 0, .int .u8 0, .int .u8 0, .int .i64 0, .bool false]
theorem zeroDev_eq : zeroDev = (encD ⟨0, key0, 0, false⟩).toArray := rfl
set_option maxRecDepth 100000 in
theorem fillDev (n e : Int) (k : Key) : Instr.fill (#[(0, 1), (1, 32), (33, 1), (34, 1)][·]?) zeroDev [(0, .int .i64 n), (1, .agg (encK k).toArray), (2, .int .i64 e)] = some (encD ⟨n, k, e, false⟩).toArray := by
  have hz : zeroDev.toList = encD ⟨0, key0, 0, false⟩ := rfl
  have s1 : splice zeroDev.toList 0 [.int .i64 n] = encD ⟨n, key0, 0, false⟩ := rfl
  rw [fill_cons _ _ 0 _ _ 0 1 rfl rfl (by decide)]
  rw [show (Value.int .i64 n).cells.toList = [.int .i64 n] from rfl, s1]
  rw [fill_cons _ _ 1 _ _ 1 32 rfl (by simpa [Value.cells] using encK_len k) (by simp [encD_len])]
  have s2 : splice (encD ⟨n, key0, 0, false⟩) 1 (encK k) = encD ⟨n, k, 0, false⟩ := by
    unfold splice encD
    rw [encK_len]
    simp only [List.take_succ_cons, List.take_zero, Nat.reduceAdd, List.drop_succ_cons]
    rw [List.drop_append, List.drop_eq_nil_of_le (by rw [encK_len]; omega), encK_len]
    rfl
  have s2' : splice (encD ⟨n, key0, 0, false⟩).toArray.toList 1 (Value.agg (encK k).toArray).cells.toList = encD ⟨n, k, 0, false⟩ := by
    simpa [Value.cells] using s2
  rw [s2']
  rw [fill_cons _ _ 2 _ _ 33 1 rfl rfl (by simp [encD_len])]
  have s3 : splice (encD ⟨n, k, 0, false⟩) 33 [.int .i64 e] = encD ⟨n, k, e, false⟩ := by
    unfold splice encD
    simp only [List.take_succ_cons, List.length_cons, List.length_nil, Nat.reduceAdd, List.drop_succ_cons]
    rw [List.take_append_of_le_length (by rw [encK_len]; omega), List.take_of_length_le (by rw [encK_len]; omega), List.drop_append, List.drop_eq_nil_of_le (by rw [encK_len]; omega), encK_len]
    rfl
  have s3' : splice (encD ⟨n, k, 0, false⟩).toArray.toList 33 (Value.int .i64 e).cells.toList = encD ⟨n, k, e, false⟩ := by
    simpa [Value.cells] using s3
  rw [s3']
  rfl
set_option maxRecDepth 100000 in
theorem run_buildDev (w : World) (n e : Int) (k : Key) : (Instr.build 46 #[(0, .int .i64 n), (1, .agg (encK k).toArray), (2, .int .i64 e)]).run Tryz.prog w = .ok (.agg (encD ⟨n, k, e, false⟩).toArray) w := by
  have hf := fillDev n e k
  have hz : (zeroValue 46).run Tryz.prog w = .ok (.agg zeroDev) w := Tryz.zeroValue46 w
  generalize zeroDev = Z at hf hz
  simp only [Instr.build, Sem.run_bind, hz, Result.andThen_ok, run_underlying Tryz.underlying46, Value.cells]
  simp only [List.mapM_toArray, List.mapM_cons, List.mapM_nil, Sem.run_bind, Sem.run_map, Sem.run_pure, Result.andThen_ok, Tryz.sizeOf3, Tryz.sizeOf34, Tryz.sizeOf4, Functor.map]
  have hb : ∀ {α β : Type} (x : Sem α) (f : α → Sem β), Sem.bind x f = x >>= f := fun _ _ => rfl
  simp only [hb, Sem.run_bind, Sem.run_pure, Result.andThen_ok, Tryz.sizeOf3, Tryz.sizeOf34, Tryz.sizeOf4, Function.comp]
  change ((Result.ok (#[(0, 1), (1, 32), (33, 1), (34, 1)] : Array (Nat × Nat)) w).andThen fun a w' => _) = _
  simp only [Result.andThen_ok]
  rw [hf]
  rfl
end Go.Proofs.YthnpiimiimiijaaGreatDoor.Dir
