/- Texts of this claim, merged: the walks and what they stand on. Each condition stands in its theorem. -/
import Derived.Test.YtpnoehpmgflibaaGreatDoorCA9
set_option linter.unusedVariables false
set_option linter.unusedSimpArgs false
set_option maxRecDepth 100000
set_option maxHeartbeats 8000000
namespace Go
section
variable {P:Program} {ops:Array Oper} {Q:Exit->Act->World->Prop} {S:World->Prop} {n:Nat}
def EndQ (Q:Exit->Act->World->Prop) (T:Act->World->Prop):Exit->Act->World->Prop
 | .normal,a,w=>T a w
 | e,a,w=>Q e a w
theorem wp_monoQ {Q':Exit->Act->World->Prop} {o:Oper} {a:Act} {w:World} {K K':Act->World->Prop} (hp:∀ c a w,Q (.panic c) a w->Q' (.panic c) a w) (hl:LetsOut Q->LetsOut Q') (h:∀ a w,K a w->K' a w)
  (hh:o.wp P a w K Q):o.wp P a w K' Q':=by
 unfold Oper.wp at *
 generalize (execOp a.eval o).run P w=r at *
 cases r with
 | ok n w' =>
  cases n<;>simp only [Oper.upon] at hh ⊢ <;>
   first
    | exact h _ _ hh
    | exact Calls.mono hh (fun e w'' he=>by cases e<;>first|exact h _ _ he|exact hp _ _ _ he|exact hl he)
    | exact Rows.mono hh (fun _ _ he=>h _ _ he)
 | halt x w'=>cases x<;>simp only [Oper.upon] at hh ⊢<;>first|exact hp _ _ _ hh|exact hh
def zfo (ops:Array Oper) (n:Nat):List (Nat × Bool)->Array Bool->Bool
 | [],listed=>true
 | (i,true) :: r,listed=>((decide (i<n) && zdB ops n i) || (decide (n<=i) && zhA ops i)) && (Region.ready .any ops listed).contains i && Region.free .any ops listed i && zfo ops n r (listed.setIfInBounds i true)
 | (i,false) :: r,listed=>(decide (i<n) || r.all fun x=>decide (n<=x.1)) && (match Region.ready .any ops listed with|[j]=>j==i|_=>false) && zfo ops n r (listed.setIfInBounds i true)
theorem zc0 {ι : Type} {F : ι->World} (x0 : ι) (hs:Region.noSelect ops=true) (T:Act->World->Prop) (m:Nat) :
  ∀ (ord:List (Nat × Bool)) (listed:Array Bool) (a:Act) (w:World),zfa ops listed->zfo ops n ord listed=true->((∃ x ∈ ord,x.1<n)->Sf F w) ->
   (∀ a w,T a w->zbO P ops (zbX Q) (Sf F) n m (ord.foldl (fun l x=>l.setIfInBounds x.1 true) listed) a w)->zaY P ops (zbX (EndQ Q T)) F n ord a w ->
   zbO P ops (zbX Q) (Sf F) n (m+ord.length) listed a w
 | [],listed,a,w,_,_,_,hT,h=>hT a w h
 | (i,true) :: r,listed,a,w,hcl,hok,hS,hT,h=>by
  simp only [zfo,Bool.and_eq_true,Bool.or_eq_true,decide_eq_true_eq] at hok
  obtain ⟨⟨⟨hin,hr⟩,hf⟩,hok⟩:=hok
  simp only [zaY] at h
  cases ho:ops[i]? with
  | none=>simp [ho] at h
  | some o =>
   simp only [ho] at h
   have again:=fun a' h'=>zc0 (F:=F) x0 hs T m r (listed.setIfInBounds i true) a' w (zbx hcl (by simpa using hr)) hok (fun ⟨x,hx,hxn⟩=>hS ⟨x,List.mem_cons_of_mem _ hx,hxn⟩) hT h'
   rcases hin with ⟨hin,ht⟩|⟨hin,hsl⟩
   ·have hw:=hS ⟨(i,true),by simp,hin⟩
    by_cases hwt:Region.wanted o (yielded ops a.tmps)=true
    ·simp only [hwt,if_true] at h
     obtain ⟨v,hv,hk⟩:=h
     exact zb4 ho hs (fun c a w h=>h) ht _ listed a w hcl (Region.free_spec ho hf) (by simpa using hr)
      (Or.inl ⟨hwt,fun w' hw'=>by obtain ⟨X,rfl⟩:=hw';exact hv X⟩) hw (again _ hk)
    ·have hwt':Region.wanted o (yielded ops a.tmps)=false:=by simpa using hwt
     simp only [hwt',Bool.false_eq_true,if_false] at h
     exact zb4 ho hs (fun c a w h=>h) ht _ listed a w hcl (Region.free_spec ho hf) (by simpa using hr)
      (Or.inr ⟨hwt',rfl⟩) hw (again _ h)
   ·simp only [zhA,ho] at hsl
    by_cases hwt:Region.wanted o (yielded ops a.tmps)=true
    ·simp only [hwt,if_true] at h
     obtain ⟨v,hv,hk⟩:=h
     exact zb5 ho hs (fun c a w h=>h) hin _ listed a w (Region.free_spec ho hf) (by simpa using hr)
      (Or.inl ⟨hwt,fun w' _=>zkv hsl (hv x0) w'⟩) (again _ hk)
    ·have hwt':Region.wanted o (yielded ops a.tmps)=false:=by simpa using hwt
     simp only [hwt',Bool.false_eq_true,if_false] at h
     exact zb5 ho hs (fun c a w h=>h) hin _ listed a w (Region.free_spec ho hf) (by simpa using hr)
      (Or.inr ⟨hwt',rfl⟩) (again _ h)
 | (i,false) :: r,listed,a,w,hcl,hok,hS,hT,h=>by
  simp only [zfo,Bool.and_eq_true,Bool.or_eq_true,decide_eq_true_eq] at hok
  obtain ⟨⟨hin,hr⟩,hok⟩:=hok
  have hr':Region.ready .any ops listed = [i]:=by
   split at hr
   ·rename_i j hj;rw [hj];simp at hr;rw [hr]
   ·cases hr
  refine ⟨fun h0=>(by rw [h0] at hr';cases hr'),fun j hj=>?_⟩
  rw [hr',List.mem_singleton] at hj
  subst hj
  simp only [zaY] at h
  cases ho:ops[j]? with
  | none=>simp [ho] at h
  | some o =>
   simp only [ho] at h
   unfold wpOp
   simp only [ho]
   have again:=fun (a':Act) (w':World) (hw':(∃ x ∈ r,x.1<n)->Sf F w') h'=>zc0 (F:=F) x0 hs T m r (listed.setIfInBounds j true) a' w' (zbx hcl (by rw [hr'];simp)) hok hw' hT h'
   have later:(∃ x ∈ r,x.1<n)->j<n:=fun ⟨x,hx,hxn⟩=>by
    rcases hin with h1|h1
    ·exact h1
    ·have:=List.all_eq_true.1 h1 x hx
     simp only [decide_eq_true_eq] at this
     omega
   by_cases hwt:Region.wanted o (yielded ops a.tmps)=true
   ·simp only [hwt,if_true] at h ⊢
    refine Or.inl (wp_monoQ (Q:=zbX (EndQ Q T)) (Q':=zbX Q) (fun c a w h=>h) (fun ⟨a,w,h⟩=>⟨a,w,h⟩) ?_ h)
    exact fun a' w' h'=>⟨h'.1,again a' w' (fun hx=>h'.1 (later hx)) h'.2⟩
   ·have hwt':Region.wanted o (yielded ops a.tmps)=false:=by simpa using hwt
    simp only [hwt',Bool.false_eq_true,if_false] at h ⊢
    exact ⟨fun hj=>hS ⟨(j,false),by simp,hj⟩,again _ _ (fun hx=>hS ⟨(j,false),by simp,later hx⟩) h⟩
theorem zes:∀ (fuel:Nat) (listed:Array Bool) (a:Act) (w:World),(∀ i,i<n->listed.getD i false=true)->wpAny P .any ops Q fuel listed a w->zbO P ops Q S n fuel listed a w
 | 0,_,_,_,_,h=>h
 | fuel + 1, listed, a, w, hl, h => ⟨h.1, fun i hi => wpOp_mono (fun a' w' h' => ⟨fun hn => (zaS (mem_ready.1 hi).1 (hl i hn)).elim, zes fuel _ a' w' (fun k hk => by
   by_cases hki:k=i
   ·subst hki
    exact (zaS (mem_ready.1 hi).1 (hl k hk)).elim
   ·have e:(listed.setIfInBounds i true).getD k false=listed.getD k false:=by simp [Array.getD_eq_getD_getElem?,Array.getElem?_setIfInBounds,Ne.symm hki]
    rw [e];exact hl k hk) h'⟩) (h.2 i hi)⟩
theorem zdU {id:Nat} {l:List Oper} {a:Act} {w:World} (ord:List (Nat × Bool)) (n m:Nat) (hm:P.follows .mixedOrders=true)
  (hok:(zfo l.toArray n ord (Array.replicate l.toArray.size false) && Region.noSelect l.toArray && (List.range n).all (fun i=>(ord.foldl (fun l x=>l.setIfInBounds x.1 true) (Array.replicate l.toArray.size false)).getD i false) && (m+ord.length==l.toArray.size))=true)
  (h:zaY P l.toArray (zbX (EndQ Q fun a w=>wpAny P .any l.toArray (zbX Q) m (ord.foldl (fun l x=>l.setIfInBounds x.1 true) (Array.replicate l.toArray.size false)) a w)) (fun X=>w.ext X) n ord a w.drew):(Code.region id l.toArray true).wp P Q a w:=by
 simp only [Bool.and_eq_true,beq_iff_eq] at hok
 obtain ⟨⟨⟨h1,h2⟩,h3⟩,h4⟩:=hok
 have h5:(Code.region id l.toArray true).wp P (zbX Q) a w:=by
  refine wp_region_any hm ?_
  rw [<- h4] at h1 ⊢
  have h00:=Sx.drew w
  have h0:=h00
  obtain ⟨x0,_⟩:=h00
  refine zcM _ _ _ _ (zc0 (F:=fun X=>w.ext X) x0 h2 _ m ord _ a _ (zek _ _) h1 (fun _=>h0) (fun a w hw=>zes m _ a w (fun i hi=>?_) hw) ?_)
  ·rw [List.all_eq_true] at h3
   have:=h3 i (List.mem_range.2 hi)
   rw [h4]
   exact this
  ·rw [h4]
   exact h
 exact Code.wp_mono (fun e a w h=>by cases e<;>first|exact h|exact h.elim) h5
end
end Go
