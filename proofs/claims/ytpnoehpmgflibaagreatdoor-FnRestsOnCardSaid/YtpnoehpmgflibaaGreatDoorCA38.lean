/- Texts of this claim, merged: the walks and what they stand on. Each condition stands in its theorem. -/
import Derived.Test.YtpnoehpmgflibaaGreatDoorCA13
import Derived.Test.YtpnoehpmgflibaaGreatDoorCA27
import Derived.Test.YtpnoehpmgflibaaGreatDoorCA37
set_option linter.unusedVariables false
set_option linter.unusedSimpArgs false
set_option maxRecDepth 100000
set_option maxHeartbeats 8000000
namespace Go.Proofs.YtpnoehpmgflibaaGreatDoor
open Go.ChangeShapes Go.WideShapes Go.ChangeAt Go.RowKit
theorem zj3 (v:Value) (cs:List CellD) (w:World) (h:RdL zu w v cs) (hl:cs.length<=1099511627776) :
  Calls Tryz.prog 31 #[v] w fun e w'=>∃ a c,e=.returned (.agg #[.slice a cs.length c,.slice none 0 0,.slice none 0 0])/\OwnL zu 47 w' w.heap.size (.slice a cs.length c) cs/\Below w.heap.size w w':=by
 have D:=Hd (zgV v cs (w.alloc (.cells #[.slice none 0 0,.slice none 0 0,.slice none 0 0] 54)) (h.alloc _) hl)
 clear h
 go_enter Tryz.func31,Tryz.ntmps31
 (repeat (first|go_skip|go_guarded|go_step|go_upon|go_back))
 (go_at_call 47;refine D.out.mono ?_;rintro e w1 ⟨v1,rfl,ho,hb⟩)
 obtain ⟨a,c,rfl⟩:=ho.rd.form
 have hw:Below w.heap.size w w1:=Below.then (show Below w.heap.size w (w.alloc (.cells #[.slice none 0 0,.slice none 0 0,.slice none 0 0] 54)) from (by repeat (first|with_reducible exact Below.refl _ _|with_reducible apply Below.ofAlloc))) hb
 have hq:w1.heap[w.heap.size]?=some (.cells #[.slice none 0 0,.slice none 0 0,.slice none 0 0] 54 (0,0)):=(Grew.below hb _ (by simp)).trans (heap_alloc_new w _)
 have hb0:w.heap.size+1<=(w.alloc (.cells #[.slice none 0 0,.slice none 0 0,.slice none 0 0] 54)).heap.size:=by simp
 have HO:=Hd (OwnL.base ho hb0)
 have HW:=Hd hw
 have y:=za hq
 have e1:=ze hq
 rw [<- e1]
 clear e1 hq hw ho hb hb0
 ((try simp only []);repeat (first|go_skip|go_guarded|go_step|go_upon|go_back))
 refine bodyPost_ret (by simp [results,Tryz.results31,go_sem,y];rfl) rfl ?_
 exact ⟨_,_,rfl,(HO.out.setB (fun hk=>by have:=(HO.out.lt _ hk).1;omega) _).base (by omega),zo HW.out (Nat.le_refl _) _⟩
end Go.Proofs.YtpnoehpmgflibaaGreatDoor
