/- Proved here: what impl's queue.take does: it gives the next number and counts on; the lock is free before and after. Condition: the queue's block is known and its lock is free. -/
import Derived.Test.YtpmdgmnpkdoamaaProg
import Derived.Tactics
import Derived.Tactics2
import Derived.Defers
import Derived.Laws.Pointers
import Derived.Laws.LoneSync
import Derived.WalkKit
namespace Go.Proofs.Ytpmdgmnpkdoamaa.Mx
open Go.RowKit
theorem disable (w : World) : (callFunc 126 #[]).run Try.prog w = .ok (.value (.tuple #[])) w := run_call_mark0 Try.func126 (by kernel_rfl) (by kernel_rfl) (by kernel_rfl) .disable (by kernel_rfl) w
theorem enable (w : World) : (callFunc 128 #[]).run Try.prog w = .ok (.value (.tuple #[])) w := run_call_mark0 Try.func128 (by kernel_rfl) (by kernel_rfl) (by kernel_rfl) .enable (by kernel_rfl) w
theorem acquire (a : Addr) (w : World) : (callFunc 129 #[.pointer (some a)]).run Try.prog w = .ok (.value (.tuple #[])) w := run_call_marked Try.func129 (by kernel_rfl) (by kernel_rfl) (by kernel_rfl) .acquire (by kernel_rfl) a w
theorem releaseMerge (a : Addr) (w : World) : (callFunc 131 #[.pointer (some a)]).run Try.prog w = .ok (.value (.tuple #[])) w := run_call_marked Try.func131 (by kernel_rfl) (by kernel_rfl) (by kernel_rfl) .releaseMerge (by kernel_rfl) a w
set_option maxRecDepth 100000 in
theorem unlock_deferred (a : Addr) (u : FrameMode) (w : World) (hc : w.cell? a = some (.int .i32 1)) (hz : w.frozen? a = false) :
    CallsD Try.prog 113 #[.pointer (some a)] u w fun e u' w' => u' = u ∧ (e = .returned (.tuple #[]) ∧ w' = w.setCell a (.int .i32 0)) := by
  have hd := disable
  have he := enable
  have hr := releaseMerge
  have hcv := run_convert_to_unsafe (P := Try.prog) (src := 152) (dst := 156) Try.underlying152 Try.underlying156 (by kernel_rfl) hc
  have hadd := run_call_add (P := Try.prog) Try.func132 (by kernel_rfl) (by kernel_rfl) (by kernel_rfl) .i32 (by kernel_rfl) (y := -1) (s := 0) hc hz (by simp [go_sem]; rfl)
  go_enter_d Try.func113, Try.ntmps113
  go_wp2
  go_end0
  go_wp2
  go_end0
  exact ⟨rfl, rfl⟩
set_option maxRecDepth 100000 in
set_option maxHeartbeats 800000 in
theorem take_any (b off : Nat) (n : Int) (w : World)
    (h0 : w.cell? ⟨b, off, none⟩ = some (.int .i32 0)) (h2 : w.cell? ⟨b, off + 2, none⟩ = some (.int .i64 n))
    (f0 : w.frozen? ⟨b, off, none⟩ = false) (f2 : w.frozen? ⟨b, off + 2, none⟩ = false) :
    Calls Try.prog 86 #[.pointer (some ⟨b, off, none⟩)] w fun e w' => e = .returned (.int .i64 (wrap64 (wrap64 (n + 1) - 1))) ∧
      w' = ((w.setCell ⟨b, off, none⟩ (.int .i32 1)).setCell ⟨b, off + 2, none⟩ (.int .i64 (wrap64 (n + 1)))).setCell ⟨b, off, none⟩ (.int .i32 0) := by
  have hd := disable
  have he := enable
  have ha := acquire
  have hcas := run_call_cas_hit (P := Try.prog) Try.func127 (by kernel_rfl) (by kernel_rfl) (by kernel_rfl) .i32 (by kernel_rfl) (y := 1) h0 f0
  have h0' : (w.setCell ⟨b, off, none⟩ (.int .i32 1)).cell? ⟨b, off, none⟩ = some (.int .i32 1) := by simp [go_sem, h0]
  have hcv := run_convert_to_unsafe (P := Try.prog) (src := 152) (dst := 156) Try.underlying152 Try.underlying156 (by kernel_rfl) h0'
  go_enter_defers Try.func86, Try.ntmps86
  go_wp2
  first | go_end0 | (simp only [Exit.inBlock, Exit.then]; refine bodyPost_ret (results_none rfl _ _ _) rfl ?_) | refine bodyPost_ret (results_none rfl _ _ _) rfl ?_
  go_wp2
  go_end0
  go_wp2
  refine leaves_cons (f := 113) (args := #[.pointer (some ⟨b, off, none⟩)]) (by simp) (by simp [go_sem]) ?_
  refine (unlock_deferred ⟨b, off, none⟩ .returning _ ?_ ?_).mono ?_
  · exact (World.cell?_setCell_other _ ⟨b, off + 2, none⟩ ⟨b, off, none⟩ _ (by simp)).trans h0'
  · simp [f0]
  rintro e u' w'' ⟨rfl, rfl, rfl⟩
  exact ⟨_, results_tmp rfl _ _ _, rfl, rfl⟩
end Go.Proofs.Ytpmdgmnpkdoamaa.Mx
