/- SHA-256: the rounds' numbers; what a digest is, plain. Printed by wip/shakgen.py. -/
import Derived.Test.YtpjnmijfmfgdpaaShaP
import Derived.Deep.MidRow
namespace Go.Proofs.Ytpjnmijfmfgdpaa
set_option linter.unusedVariables false
set_option linter.unusedSimpArgs false
open Go.RowKit

def kI : List Int := [1116352408, 1899447441, 3049323471, 3921009573, 961987163, 1508970993, 2453635748, 2870763221, 3624381080, 310598401, 607225278, 1426881987, 1925078388, 2162078206, 2614888103, 3248222580, 3835390401, 4022224774, 264347078, 604807628, 770255983, 1249150122, 1555081692, 1996064986, 2554220882, 2821834349, 2952996808, 3210313671, 3336571891, 3584528711, 113926993, 338241895, 666307205, 773529912, 1294757372, 1396182291, 1695183700, 1986661051, 2177026350, 2456956037, 2730485921, 2820302411, 3259730800, 3345764771, 3516065817, 3600352804, 4094571909, 275423344, 430227734, 506948616, 659060556, 883997877, 958139571, 1322822218, 1537002063, 1747873779, 1955562222, 2024104815, 2227730452, 2361852424, 2428436474, 2756734187, 3204031479, 3329325298]
def ivI : List Int := [1779033703, 3144134277, 1013904242, 2773480762, 1359893119, 2600822924, 528734635, 1541459225]
theorem kI_len : kI.length = 64 := by decide +kernel
theorem kI_U : ∀ x ∈ kI, U x := by unfold U; decide +kernel
theorem ivI_U : ∀ x ∈ ivI, U x := by unfold U; decide +kernel
set_option maxHeartbeats 1000000 in
set_option maxRecDepth 100000 in
theorem numbers_calls (w : World) (o : Col) : Calls Try.prog 77 #[] w (Post [] w o fun r _ _ => r = .agg (us kI).toArray) := by
  obtain ⟨d, _, _, hd⟩ := fresh o w.heap.size []
  have sa : Stp [d] w o (w.alloc (.cells (us (List.replicate 64 0)).toArray 112)) (paint o w.heap.size d) := (Stp.refl [d] w o).alloc _ d
  have hb : (w.alloc (.cells (us (List.replicate 64 0)).toArray 112)).heap[w.heap.size]? = some (.cells (us (List.replicate 64 0)).toArray 112 (0, 0)) := heap_alloc_new _ _
  have hc := paint_at o w.heap.size d
  have hsz : (Try.prog.info? 112).map (·.size) = some (us kI).toArray.size := by kernel_rfl
  go_enter Try.func77, Try.ntmps77
  go_wp2_with (refine holdAt 1 ?_)
  apply Hold.mk
  refine wpList_build rfl 112 _ rfl (by kernel_rfl) ?_
  refine wpList_store_row rfl _ _ _ rfl w.heap.size (us kI).toArray rfl (by kernel_rfl) _ _ hb hsz (by kernel_rfl) (by decide +kernel) ?_
  go_wp2
  refine bodyPost_ret (results_cell_row rfl _ _ w.heap.size 112 (us kI).toArray (0, 0) _ rfl ?_ Try.underlying112 rfl hsz) rfl ?_
  · exact setRow_heap _ _ _ _ _ _ hb
  · exact Post.mk ((sa.trans (setRow_stp (by simp [hc]) _)).drop hd) rfl
set_option maxHeartbeats 1000000 in
set_option maxRecDepth 100000 in
theorem xk_calls (w : World) (o : Col) : Calls Try.prog 72 #[] w (Post [] w o fun r _ _ => r = .agg (us kI).toArray) := by
  obtain ⟨d, _, _, hd⟩ := fresh o w.heap.size []
  have sa : Stp [d] w o (w.alloc (.cells (us (List.replicate 64 0)).toArray 112)) (paint o w.heap.size d) := (Stp.refl [d] w o).alloc _ d
  have hb : (w.alloc (.cells (us (List.replicate 64 0)).toArray 112)).heap[w.heap.size]? = some (.cells (us (List.replicate 64 0)).toArray 112 (0, 0)) := heap_alloc_new _ _
  have hc := paint_at o w.heap.size d
  have hsz : (Try.prog.info? 112).map (·.size) = some (us kI).toArray.size := by kernel_rfl
  go_enter Try.func72, Try.ntmps72
  go_wp2_with (refine holdAt 1 ?_)
  apply Hold.mk
  refine wpList_build rfl 112 _ rfl (by kernel_rfl) ?_
  refine wpList_store_row rfl _ _ _ rfl w.heap.size (us kI).toArray rfl (by kernel_rfl) _ _ hb hsz (by kernel_rfl) (by decide +kernel) ?_
  go_wp2
  refine bodyPost_ret (results_cell_row rfl _ _ w.heap.size 112 (us kI).toArray (0, 0) _ rfl ?_ Try.underlying112 rfl hsz) rfl ?_
  · exact setRow_heap _ _ _ _ _ _ hb
  · exact Post.mk ((sa.trans (setRow_stp (by simp [hc]) _)).drop hd) rfl
end Go.Proofs.Ytpjnmijfmfgdpaa
