/- The law WindowsAddUp returns true for every input, and leaves its input as it was: no condition; the listed variables of the library tied to the text that lays them. -/
import Derived.Test.YtfmnlpmgakgleaaGreatDoorRows
import Derived.Test.YtfmnlpmgakgleaaGreatDoorTie
import Derived.Test.YtfmnlpmgakgleaaGreatDoorWindowsAddUpClosed
import Derived.Test.YtfmnlpmgakgleaaGreatDoorCards
import Derived.Test.YtfmnlpmgakgleaaGreatDoorWindowsAddUp
import Derived.LaidMore
import Derived.Lay
import Derived.SevenTiedAt
import Derived.Stop.Joined
import Derived.WalkKit
import Derived.ProofKit
import Derived.OpenShut
import Derived.ShutString
import Derived.ChangeOld
import Derived.Below
namespace Go.Proofs.YtfmnlpmgakgleaaGreatDoor.windowsAddUp
open Go.ChangeShapes Go.WideShapes Go.ChangeAt Go.RowKit
open Go.ChangeMaps (open_string shut_string)
set_option linter.unusedVariables false
theorem own:ownKnob Tryz.prog.godebug = none:=by kernel_rfl
theorem laidOut:laidOutB Tryz.prog = true:=by kernel_rfl
theorem walk (a0:Option Addr) (len0 cap0:Nat) (z0:List Int) (w:World) (w0:IsRow .i64 w a0 len0 cap0 z0) (hG:GlobE w) :
  Calls Tryz.prog 4 #[.slice a0 len0 cap0] w fun e w' => e = .returned (.bool true) ∧ Below w.heap.size w w':=by
 exact windowsAddUp_walk a0 len0 cap0 z0 w w0 hG
set_option maxRecDepth 100000 in
theorem lifted (os:Os) (started:os.Started) (H:Type) (enc:TypeId × Value → H) :
  ReturnsInHanded {} Tryz.checked os 4 .any (fun w args => (Rows.windowsAddUpSpec.pre enc Tryz.prog Tryz.f4 Rows.windowsAddUpRow.domain false w args ∧ laidMetH Tryz.prog Rows.windowsAddUpRow.laid w) ∧ sizedMet enc Tryz.prog Tryz.f4 (OpenSpec.ofChange Rows.windowsAddUpSpec) false w args)
   (Rows.windowsAddUpSpec.post enc Tryz.prog Tryz.f4 false true false false):=by
 refine handed_and (C:=Tryz.checked) (X:=fun w _ => laidMetH Tryz.prog Rows.windowsAddUpRow.laid w) (fun _ _ _ hh h => h.of_heap hh) own started (by kernel_rfl) Tryz.func4
  (ChangeSpec.witness_shaped (enc:=enc) (C:=Tryz.checked) (os:=os) (X:=fun w _ => laidMetH Tryz.prog Rows.windowsAddUpRow.laid w) false (World.laidAll Tryz.prog os Rows.windowsAddUpRow.laid) #[.slice none 0 0] 8 (World.laidAll_os _ _ _)
   (World.shaped_of_ZipB (by kernel_rfl) (by kernel_rfl)) (by kernel_rfl) (by kernel_rfl) (by kernel_rfl)
   (by rw [MakeChecks.laidMetH_plain _ _ _ (by kernel_rfl)];exact laidMet_laidAll _ (by kernel_rfl) (by kernel_rfl))) ?_
 intro W base args ds gs before hval0 hW hL hsh
 have hval:∀ (j:Nat) t v,Tryz.f4.params[j]? = some t → args[j]? = some v → Value.okWide Tryz.prog W .any base t v:=hval0
 have hW':=hW
 obtain ⟨p,q,hA0,hV,rfl,hfz,hnd⟩:=hW
 have hA:DataW.TrodAll enc Tryz.prog W 0 (fun _ => true) true Tryz.f4.params.toList args.toList ds p:=hA0
 rw [Tryz.params4] at hA hval
 obtain ⟨v0,vs0,d0,ds0,p0,q0,hargs,rfl,rfl,h0,r0⟩:=trodAll_cons hA
 obtain ⟨rfl,rfl,rfl⟩:=trodAll_nil r0
 obtain rfl:args = #[v0]:=by cases args;simp_all
 obtain ⟨rfl,rfl⟩:=trodVars_none hV
 obtain ⟨a0,len0,cap0,rfl⟩:=okWide_slice Tryz.underlying22 (hval 0 22 v0 rfl rfl)
 have k0:=h0
 have lt0:∀ x ∈ p0,x.block < W.heap.size:=by obtain ⟨m,hm⟩:=k0;exact DataW.trod_lt m _ _ _ hm
 obtain ⟨z0,w0⟩:∃ zs,IsRow .i64 W a0 len0 cap0 zs:=by
  obtain ⟨fuel,hf⟩:=h0
  rcases open_ints Tryz.underlying22 Tryz.underlying3 (by kernel_rfl) hf with ⟨hcs,_⟩ | ⟨x,l,c,zs,hcs,_,hl,hm,hz,_,hcell,hwz⟩
  ·simp [Value.cells] at hcs
   obtain ⟨rfl,rfl,rfl⟩:=hcs
   exact ⟨[],.inl ⟨rfl,rfl,rfl,rfl⟩⟩
  ·simp [Value.cells] at hcs
   obtain ⟨rfl,rfl,rfl⟩:=hcs
   exact ⟨zs,.inr ⟨_,rfl,hl,hm,by simpa using hz,hcell,hwz⟩⟩
 clear hA0 hval0
 refine (walk a0 len0 cap0 z0 W w0 (globE_of (show Rows.laid_unicode_utf8_first = Lib.firstData by kernel_rfl) (show Rows.laid_unicode_utf8_acceptRanges = Lib.acceptData by kernel_rfl) (show Rows.laid_handbill_handmake_fieldNames = namesData by kernel_rfl) (show Rows.laid_handbill_handmake_idPool = poolData by kernel_rfl) (show Rows.laid_handbill_handmake_eventNames = enamesData by kernel_rfl) hL (by kernel_rfl) (by unfold Rows.windowsAddUpRow;repeat (first | exact List.Mem.head _ | apply List.Mem.tail)) (by unfold Rows.windowsAddUpRow;repeat (first | exact List.Mem.head _ | apply List.Mem.tail)) (by unfold Rows.windowsAddUpRow;repeat (first | exact List.Mem.head _ | apply List.Mem.tail)) (by unfold Rows.windowsAddUpRow;repeat (first | exact List.Mem.head _ | apply List.Mem.tail)) (by unfold Rows.windowsAddUpRow;repeat (first | exact List.Mem.head _ | apply List.Mem.tail)) hsh)).mono fun e W' ⟨he,bel⟩ => ?_
 subst he
 exact ⟨_,rfl,_,_,_,[],_,[],hW',trodAll_mk1 (shut_bool Tryz.underlying4 _),(trodAll_cons_mk (Below.trod laidOut (by kernel_rfl) (of_decide_eq_true (by kernel_rfl)) k0 bel lt0) trodAll_mk0),rfl,bel.frame _,fun h => by cases h⟩
theorem over:Rows.windowsAddUpRow.holds Tryz.pinned (OpenSpec.ofChange Rows.windowsAddUpSpec) :=
 OpenClaim.holds_of_wide 4 Tryz.f4 rfl rfl rfl rfl rfl rfl rfl ⟨rfl,rfl,rfl,rfl,rfl⟩ rfl rfl rfl rfl rfl (by kernel_rfl) Tryz.func4 windowsAddUpClosed.closed
  (of_decide_eq_true (by kernel_rfl)) (by unfold Func.isWrapper;first | (rw [if_pos (by decide +kernel)];kernel_rfl) | (rw [if_neg (by decide +kernel)];exact ⟨rfl,rfl⟩))
  (fun os started H enc _ => lifted os started H enc)
theorem row_said:Rows.WindowsAddUpSaid:=over
theorem proved:Rows.WindowsAddUpCardSaid :=
 Claim7.holds_tied_plain_at .later [] [.data, .data, .data, .data, .pinned] true (true, "2ddf598c4d841370bcea60a930f9fd48ddc85c4e55c147a4805aac1d0a654b93") true
  row_said (fun _ h => by cases h) (by kernel_rfl) (fun _ h => by cases h) windowsAddUp_row_tie rfl ⟨rfl,rfl⟩ windowsAddUpClosed.cMain rfl
  (fun f fn hf hfn => by
   obtain rfl : f = 4 := Option.some.inj ((show Tryz.prog.funcNamed "handbill/handkeep2.WindowsAddUp" = some 4 by kernel_rfl).symm.trans hf) |>.symm
   obtain rfl:fn = Tryz.f4:=(Option.some.inj (Tryz.func4.symm.trans hfn)).symm
   exact ⟨windowsAddUpClosed.cLooks,fun j t ht => by
    rw [Tryz.params4] at ht
    have hm:t ∈ [22]:=by simpa using Array.mem_of_getElem? ht
    have hall:([22].all fun u => !Tryz.prog.wantsStandIn u) = true:=by kernel_rfl
    exact (show Tryz.prog.wantsStandIn t = false by simpa using List.all_eq_true.1 hall t hm)⟩)
  windowsAddUpClosed.cGoes
#print axioms proved
end Go.Proofs.YtfmnlpmgakgleaaGreatDoor.windowsAddUp
