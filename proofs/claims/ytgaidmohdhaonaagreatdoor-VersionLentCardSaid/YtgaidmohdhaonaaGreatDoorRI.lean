/-
  Package strataref4, walked: Load.
  The program's disk and the document's, as plain data: the acts answer alike. No program in sight.
  The program's disk and the document's, as plain data: Rename, Read, List, Crash answer alike. No program in sight.
  Package stratalaw4's Book: lists that were handed out, in memory; take, holds, roomy.
-/
import Derived.Test.YtgaidmohdhaonaaGreatDoorRF
import Derived.Test.YtgaidmohdhaonaaGreatDoorRA
set_option linter.unusedVariables false
set_option linter.unusedSimpArgs false
set_option linter.unnecessarySimpa false
set_option linter.unusedSectionVars false
set_option maxRecDepth 100000
set_option maxHeartbeats 1600000
namespace Go.Proofs.YtgaidmohdhaonaaGreatDoor
open Go Go.RowKit
def NamesND (a:DiskA):Prop:=(a.files.map (·.name)).Nodup
theorem sorted_fileList {w:World} {s:DS} {r:RS} (hs:s.In w) (h:Alike s.abs r.abs) (hso:Sorted r.F):r.F.map FV.abs=fileList s:=by
 have hp:(r.F.map FV.abs).Perm (fileList s):=h.files.symm.trans (fileList_files_perm hs).symm
 have hnd:((r.F.map FV.abs).map (·.name)).Nodup:=sorted_nodup hso
 have e1:(r.F.map FV.abs).map (·.name)=r.F.map (·.name):=by rw [List.map_map];rfl
 have hn1:((r.F.map FV.abs).map (·.name)).Pairwise (fun a b=>leB a.data.toList b.data.toList=true):=by
  rw [e1]
  refine List.Pairwise.imp (fun hab=>?_) hso
  simp only [leB,decide_eq_true_eq]
  exact List.le_of_lt hab
 have hn2:((fileList s).map (·.name)).Pairwise (fun a b=>leB a.data.toList b.data.toList=true):=by rw [fileList_names hs];exact sortNames_sorted _
 have hN:(r.F.map FV.abs).map (·.name)=(fileList s).map (·.name):=by
  refine List.Perm.eq_of_pairwise (le:=fun a b=>leB a.data.toList b.data.toList=true) (fun a b _ _ h1 h2=>?_) hn1 hn2 (hp.map _)
  simp only [leB,decide_eq_true_eq] at h1 h2
  have:=List.le_antisymm h1 h2
  rw [←toBA_data a,←toBA_data b,this]
 have hall:=filterMap_findA hnd (r.F.map FV.abs) (fun f hf=>hf)
 have hall2:=filterMap_findA (l:=r.F.map FV.abs) hnd (fileList s) (fun f hf=>hp.symm.subset hf)
 rw [←hall,hN,hall2]
theorem Tryz.infoBytes:(Tryz.prog.info? 22).map (fun i=>(i.zero,i.size,i.bytes))=some (some (.slice none 0 0),1,24):=by kernel_rfl
end Go.Proofs.YtgaidmohdhaonaaGreatDoor
