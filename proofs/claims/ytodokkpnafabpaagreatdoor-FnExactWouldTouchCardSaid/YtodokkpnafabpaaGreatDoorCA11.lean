/- Texts of this claim, merged: the walks and what they stand on. Each condition stands in its theorem. -/
import Derived.Test.YtodokkpnafabpaaGreatDoorCA10
set_option linter.unusedVariables false
set_option linter.unusedSimpArgs false
set_option maxRecDepth 100000
set_option maxHeartbeats 8000000
namespace Go.Proofs.YtodokkpnafabpaaGreatDoor
open Go.ChangeShapes Go.WideShapes Go.ChangeAt Go.RowKit
open Mp
open Classical
section
variable {L:Nat} {m:MachD} {D:List ByteArray}
theorem zfK {id p:Int} (h0 : 0<=id) (h1:id<=999) (p0 : 0<=p) (p1:p<=130) (hG:∀ k ∈ gk,k ∈ D):At L (K.block id p) m D 0 (fun _ _ D'=>D'=D):=by
 unfold K.block
 exact At.bind (d:=0) (zgZ (zcZ ⟨by omega,by omega⟩ ⟨by omega,by omega⟩).1 (hG _ (zeZ h0 h1 p0 p1))) fun _ m' D' hD _ _=>At.ret hD.1
theorem zhh {a b p:Nat} (hb:b<=1040) (h:p ∈ K.places a b):p<=130:=by
 unfold K.places at h
 rw [List.mem_range'] at h
 obtain ⟨i,hi,rfl⟩:=h
 omega
theorem zii {id a n:Int} (h0 : 0<=id) (h1:id<=999) (hG:∀ k ∈ gk,k ∈ D):At L (K.readFile id a n) m D 0 (fun _ _ _=>True):=by
 unfold K.readFile
 refine At.bind (d:=0) (zcQ (zcc ⟨by omega,by omega⟩).1 (hG _ (zes h0 h1))) fun s m' D' hs _ _=>At.ite (fun _=>At.ret trivial) fun hn=>?_
 have hG':∀ k ∈ gk,k ∈ D':=by rw [hs.1];exact hG
 refine (ze2 (T:=fun _=>True) _ _ m' trivial fun p hp b m _=>?_).mono fun _ _ _ _ _=>trivial
 have hp2:=zhh (by omega) hp
 unfold K.readBlock
 exact At.bind (d:=0) (zfK h0 h1 (by omega) (by omega) hG') fun _ _ _ hD _ _=>At.ret ⟨hD,trivial⟩
theorem zhF {id a:Int} {text:ByteArray} (h0 : 0<=id) (h1:id<=999) (hG:∀ k ∈ gk,k ∈ D):At L (K.writeFile id a text) m D 0 (fun _ _ _=>True):=by
 unfold K.writeFile
 refine At.bind (d:=0) (zcQ (zcc ⟨by omega,by omega⟩).1 (hG _ (zes h0 h1))) fun s m' D' hs _ _=>At.ite (fun _=>At.ret trivial) fun hn=>At.ite (fun _=>At.ret trivial) fun h64=>?_
 have hG':∀ k ∈ gk,k ∈ D':=by rw [hs.1];exact hG
 have hE:At L (Mp.each (K.writeBlock id text a.toNat (a.toNat+text.size)) (K.places a.toNat (a.toNat+text.size))) m' D' 0 (fun _ _ D''=>D''=D'):=ze3 _ m' fun p hp m=>by
  have hp2:=zhh (by omega) hp
  unfold K.writeBlock
  refine At.bind (d:=0) (zfK h0 h1 (by omega) (by omega) hG') fun _ m' D' hD _ _=>?_
  subst hD
  exact zew (zcZ ⟨by omega,by omega⟩ ⟨by omega,by omega⟩) (hG' _ (zeZ h0 h1 (by omega) (by omega)))
 refine At.bind (d:=0) hE fun _ m2 D2 hD _ _=>?_
 subst hD
 refine At.ite (fun _=>?_) fun _=>?_
 ·exact At.bind (d:=0) (zcj (zcc ⟨by omega,by omega⟩) (hG' _ (zes h0 h1))) fun _ _ _ _ _ _=>At.ret trivial
 ·exact At.ret trivial
theorem zi9 {id n:Int} (h0 : 0<=id) (h1:id<=999) (hG:∀ k ∈ gk,k ∈ D):At L (K.cutFile id n) m D 0 (fun _ _ _=>True):=by
 unfold K.cutFile
 refine At.bind (d:=0) (zcQ (zcc ⟨by omega,by omega⟩).1 (hG _ (zes h0 h1))) fun s m' D' hs _ _=>At.ite (fun _=>At.ret trivial) fun hn=>?_
 have hG':∀ k ∈ gk,k ∈ D':=by rw [hs.1];exact hG
 have hE:∀ (a b:Nat) (m:MachD),a+b<=130->At L (Mp.each (fun p:Nat=>K.lay (K.blockKey id (p:Int)) ⟨#[]⟩) (List.range' a b)) m D' 0 (fun _ _ D''=>D''=D'):=fun a b m hab=>ze3 _ m fun p hp m=>by
  rw [List.mem_range'] at hp
  obtain ⟨i,hi,rfl⟩:=hp
  exact zew (zcZ ⟨by omega,by omega⟩ ⟨by omega,by omega⟩) (hG' _ (zeZ h0 h1 (by omega) (by omega)))
 refine At.ite (fun _=>?_) fun _=>?_
 ·refine At.bind (d:=0) (zfK h0 h1 (by omega) (by omega) hG') fun _ m2 D2 hD _ _=>?_
  subst hD
  refine At.bind (d:=0) (zew (zcZ ⟨by omega,by omega⟩ ⟨by omega,by omega⟩) (hG' _ (zeZ h0 h1 (by omega) (by omega)))) fun _ m3 D3 hD _ _=>?_
  subst hD
  refine At.bind (d:=0) (hE _ _ m3 (by omega)) fun _ m4 D4 hD _ _=>?_
  subst hD
  exact At.bind (d:=0) (zcj (zcc ⟨by omega,by omega⟩) (hG' _ (zes h0 h1))) fun _ _ _ _ _ _=>At.ret trivial
 ·refine At.bind (d:=0) (hE _ _ m' (by omega)) fun _ m4 D4 hD _ _=>?_
  subst hD
  exact At.bind (d:=0) (zcj (zcc ⟨by omega,by omega⟩) (hG' _ (zes h0 h1))) fun _ _ _ _ _ _=>At.ret trivial
theorem zij:At L K.makePipe m D 4 (fun _ _ _=>True):=by
 unfold K.makePipe
 refine At.bind (d:=3) (zaZ zhq.1) fun n m' D' _ _ _=>At.ite (fun _=>(At.ret trivial).le (by omega)) fun _=>?_
 refine At.bind (d:=1) (zkb zhq) fun id m' D' hid _ _=>?_
 exact At.bind (d:=0) (zah (za7 ⟨by omega,by omega⟩ (by decide))) fun _ _ _ _ _ _=>At.ret trivial
theorem zhH {id:Int} (h:zca id):At L (K.isPipe id) m D 1 (fun _ _ _=>True):=by
 unfold K.isPipe
 exact At.bind (d:=0) (zaZ (za7 h (by decide)).1) fun _ _ _ _ _ _=>At.ret trivial
theorem zi7 {id:Int} {text:ByteArray} (h:zca id):At L (K.putPipe id text) m D 5 (fun _ _ _=>True):=by
 unfold K.putPipe
 refine At.bind (d:=4) (zhH h) fun is m' D' _ _ _=>At.ite (fun _=>(At.ret trivial).le (by omega)) fun _=>At.ite (fun _=>(At.ret trivial).le (by omega)) fun _=>?_
 refine At.bind (d:=3) (zaZ (za7 h (by decide)).1) fun tl m' D' ht _ _=>?_
 refine At.bind (d:=2) (zaZ (za7 h (by decide)).1) fun hd m' D' _ _ _=>At.ite (fun _=>(At.ret trivial).le (by omega)) fun _=>At.ite (fun _=>(At.ret trivial).le (by omega)) fun _=>?_
 refine At.bind (d:=1) (zah (za7 h (by decide))) fun _ m' D' _ _ _=>?_
 exact At.bind (d:=0) (zdj (zen h ⟨by omega,by omega⟩)) fun _ _ _ _ _ _=>At.ret trivial
theorem zgq {k:ByteArray} (hk:zhM k):At L (K.message k) m D 1 (fun _ _ _=>True):=by
 unfold K.message
 exact At.bind (d:=0) (zj8 hk) fun _ _ _ _ _ _=>At.ret trivial
theorem zig {id:Int} (h:zca id):At L (K.takePipe id) m D 6 (fun _ _ _=>True):=by
 unfold K.takePipe
 refine At.bind (d:=5) (zhH h) fun is m' D' _ _ _=>At.ite (fun _=>(At.ret trivial).le (by omega)) fun _=>?_
 refine At.bind (d:=4) (zaZ (za7 h (by decide)).1) fun hd m' D' ht _ _=>?_
 refine At.bind (d:=3) (zaZ (za7 h (by decide)).1) fun tl m' D' _ _ _=>At.ite (fun _=>(At.ret trivial).le (by omega)) fun _=>?_
 refine At.bind (d:=2) (zgq (zen h ⟨by omega,by omega⟩).1) fun t m' D' _ _ _=>?_
 refine At.bind (d:=1) (zdj (zen h ⟨by omega,by omega⟩)) fun _ m' D' _ _ _=>?_
 exact At.bind (d:=0) (zah (za7 h (by decide))) fun _ _ _ _ _ _=>At.ret trivial
theorem zd2 {id:Int} (h:zca id):At L (K.state id) m D 1 (fun a _ _=>0<=a/\a<=999):=zaZ (za6 h (by decide)).1
theorem zi8 {id n:Int} (h:zca id):At L (K.endProc id n) m D 3 (fun _ _ _=>True):=by
 unfold K.endProc
 refine At.bind (d:=2) (zd2 h) fun s m' D' _ _ _=>At.ite (fun _=>(At.ret trivial).le (by omega)) fun _=>At.ite (fun _=>(At.ret trivial).le (by omega)) fun _=>?_
 refine At.bind (d:=1) (zah (za6 h (by decide))) fun _ m' D' _ _ _=>?_
 exact At.bind (d:=0) (zah (za6 h (by decide))) fun _ _ _ _ _ _=>At.ret trivial
theorem zfr {hd t:ByteArray} {id:Int} (h:zca id) (hz:hd.size+t.size<=100):(zP hd id t).size<=1000:=by
 have:=za8 hd t id h
 omega
theorem at_reap {parent id:Int} (h:zca id):At L (K.reap parent id) m D 4 (fun _ _ _=>True):=by
 unfold K.reap
 refine At.bind (d:=3) (zaZ (za6 h (by decide)).1) fun own m' D' _ _ _=>At.ite (fun _=>(At.ret trivial).le (by omega)) fun _=>?_
 refine At.bind (d:=2) (zd2 h) fun s m' D' _ _ _=>At.ite (fun _=>(At.ret trivial).le (by omega)) fun _=>At.ite (fun _=>(At.ret trivial).le (by omega)) fun _=>?_
 refine At.bind (d:=1) (zaZ (za6 h (by decide)).1) fun n m' D' _ _ _=>?_
 exact At.bind (d:=0) (zif (b:=114) (zbA rfl) (by decide) (zfr h (by decide))) fun _ _ _ _ _ _=>At.ret trivial
theorem at_kids (parent:Int):At L (K.kids parent) m D 1 (fun l _ _=>∀ x ∈ l,0<=x/\x<=999):=by
 unfold K.kids
 refine At.bind (d:=0) (zd1 (b:=114) rfl (by decide)) fun ks m' D' hk I hs=>?_
 refine (ze2 (T:=fun l:List Int=>∀ x ∈ l,0<=x/\x<=999) ks [] m' (fun x hx=>by cases hx) fun k hk' l m hl=>?_).mono fun _ _ _ _ h=>h.2
 unfold K.kid
 refine At.ite (fun _=>?_) fun _=>At.ret ⟨rfl,hl⟩
 have h3:=hk.2 k hk'
 refine At.bind (d:=0) (zcQ ⟨zc4 h3.2.2,by omega⟩ h3.1) fun up m' D' hD _ _=>At.ret ⟨hD.1,?_⟩
 split
 ·intro x hx
  rcases List.mem_append.1 hx with hx|hx
  ·exact hl x hx
  ·rw [List.mem_singleton] at hx
   subst hx
   exact zcq _
 ·exact hl
theorem at_send {to n:Int} (h:zca to):At L (K.send to n) m D 5 (fun _ _ _=>True):=by
 unfold K.send
 refine At.bind (d:=4) (zd2 h) fun s m' D' _ _ _=>At.ite (fun _=>(At.ret trivial).le (by omega)) fun _=>At.ite (fun _=>(At.ret trivial).le (by omega)) fun _=>?_
 refine At.bind (d:=3) (zaZ (zbe h (by decide)).1) fun tl m' D' ht _ _=>?_
 refine At.bind (d:=2) (zaZ (zbe h (by decide)).1) fun hd m' D' _ _ _=>At.ite (fun _=>(At.ret trivial).le (by omega)) fun _=>At.ite (fun _=>(At.ret trivial).le (by omega)) fun _=>?_
 refine At.bind (d:=1) (zah (zbe h (by decide))) fun _ m' D' _ _ _=>?_
 exact At.bind (d:=0) (zah (zdR h ⟨by omega,by omega⟩)) fun _ _ _ _ _ _=>At.ret trivial
theorem at_send0 {to n:Int} (h0 : 0<=to) (h1:to<=999) (hG:∀ k ∈ gk,k ∈ D):At L (K.send to n) m D 0 (fun _ _ D'=>D'=D):=by
 have h:zca to:=⟨by omega,by omega⟩
 unfold K.send
 refine At.bind (d:=0) (zcQ (za6 h (by decide)).1 (hG _ (gk_state h0 h1))) fun s m' D' hs _ _=>?_
 obtain ⟨rfl,_⟩:=hs
 refine At.ite (fun _=>At.ret rfl) fun _=>At.ite (fun _=>At.ret rfl) fun _=>?_
 refine At.bind (d:=0) (zcQ (zbe h (by decide)).1 (hG _ (zjT h0 h1))) fun tl m' D' ht _ _=>?_
 obtain ⟨rfl,ht⟩:=ht
 refine At.bind (d:=0) (zcQ (zbe h (by decide)).1 (hG _ (gk_sigH h0 h1))) fun hd m' D' hh _ _=>?_
 obtain ⟨rfl,_⟩:=hh
 refine At.ite (fun _=>At.ret rfl) fun _=>At.ite (fun _=>At.ret rfl) fun _=>?_
 refine At.bind (d:=0) (zcj (zbe h (by decide)) (hG _ (zjT h0 h1))) fun _ m' D' hD _ _=>?_
 subst hD
 exact At.bind (d:=0) (zcj (zdR h ⟨by omega,by omega⟩) (hG _ (gk_sigQ h0 h1 (by omega) (by omega)))) fun _ _ _ hD _ _=>At.ret hD
theorem zgX {id:Int} (h:zca id):At L (K.takeSignal id) m D 5 (fun _ _ _=>True):=by
 unfold K.takeSignal
 refine At.bind (d:=4) (zaZ (zbe h (by decide)).1) fun hd m' D' ht _ _=>?_
 refine At.bind (d:=3) (zaZ (zbe h (by decide)).1) fun tl m' D' _ _ _=>At.ite (fun _=>(At.ret trivial).le (by omega)) fun _=>?_
 refine At.bind (d:=2) (zaZ (zdR h ⟨by omega,by omega⟩).1) fun n m' D' _ _ _=>?_
 refine At.bind (d:=1) (zdj (zdR h ⟨by omega,by omega⟩)) fun _ m' D' _ _ _=>?_
 exact At.bind (d:=0) (zah (zbe h (by decide))) fun _ _ _ _ _ _=>At.ret trivial
theorem zih {id a:Int} (h:zca id):At L (K.setTimer id a) m D 1 (fun _ _ _=>True):=by
 unfold K.setTimer
 refine At.ite (fun _=>?_) fun _=>(At.ret trivial).le (by omega)
 exact At.bind (d:=0) (zah (zcs (b:=116) rfl (by decide) h (by decide))) fun _ _ _ _ _ _=>At.ret trivial
theorem at_tick {n:Int} (hG:∀ k ∈ gk,k ∈ D):At L (K.tick n) m D 3 (fun _ _ _=>True):=by
 unfold K.tick
 refine At.ite (fun _=>(At.ret trivial).le (by omega)) fun _=>?_
 refine At.bind (d:=2) (zaZ zgl.1) fun c m' D' _ _ hs=>At.ite (fun _=>(At.ret trivial).le (by omega)) fun _=>?_
 refine At.bind (d:=1) (zah zgl) fun _ m2 D2 _ _ hs2=>?_
 refine At.bind (d:=0) (zd1 (b:=116) rfl (by decide)) fun ks m3 D3 hk I3 hs3=>?_
 have hG3:∀ k ∈ gk,k ∈ D3:=fun k h=>hs3 k (hs2 k (hs k (hG k h)))
 refine At.bind (d:=0) (S:=fun _ _ _=>True) ((ze2 (T:=fun _:Int=>True) ks 0 m3 trivial fun k hk' cnt m _=>?_).mono fun _ _ _ _ _=>trivial) fun _ _ _ _ _ _=>At.ret trivial
 have h3:=hk.2 k hk'
 have hkb:zhM k:=⟨zc4 h3.2.2,by omega⟩
 unfold K.tickOne
 refine At.bind (d:=0) (zcQ hkb h3.1) fun a m4 D4 hD _ _=>?_
 obtain ⟨rfl,_⟩:=hD
 refine At.ite (fun _=>At.ret ⟨rfl,trivial⟩) fun _=>?_
 refine At.bind (d:=0) (zew (KeyW.of h3.2.2 (by decide) (by omega)) h3.1) fun _ m5 D5 hD _ _=>?_
 subst hD
 have hb:=zcq (k.extract 2 k.size)
 exact At.bind (d:=0) (at_send0 hb.1 hb.2 hG3) fun _ _ _ hD _ _=>At.ret ⟨hD,trivial⟩
theorem zhG {id page:Int} {text:ByteArray} (h:zca id):At L (K.storePage id page text) m D 1 (fun _ _ _=>True):=by
 unfold K.storePage
 refine At.ite (fun hp=>?_) fun _=>(At.ret trivial).le (by omega)
 exact At.bind (d:=0) (zdj (zhr h ⟨by omega,by omega⟩)) fun _ _ _ _ _ _=>At.ret trivial
theorem zil {id page:Int} (h:zca id):At L (K.loadPage id page) m D 1 (fun _ _ _=>True):=by
 unfold K.loadPage
 refine At.ite (fun hp=>?_) fun _=>(At.ret trivial).le (by omega)
 exact At.bind (d:=0) (zgq (zhr h ⟨by omega,by omega⟩).1) fun _ _ _ _ _ _=>At.ret trivial
theorem zfq (id:Int):zgT (K.pagesKey id)=some 109:=zbA rfl
theorem zhK {id:Int} (h:zca id):At L (K.dropPages id) m D 1 (fun _ _ _=>True):=zif (zfq id) (by decide) (zfr h (by decide))
theorem zhI {frm to:Int} (hf:zca frm) (ht:zca to):At L (K.forkPages frm to) m D (1+(L+D.length)) (fun _ _ _=>True):=by
 unfold K.forkPages
 refine At.bind (d:=L+D.length) (zd1 (zfq frm) (zfr hf (by decide))) fun ks m' D' hk I hs=>?_
 have hzt:(K.pagesKey to).size<=50:=by
  have:=za8 K.nM K.slash to ht
  have h1:K.nM.size=2:=rfl
  have h2:K.slash.size=1:=rfl
  show (zP K.nM to K.slash).size<=50
  omega
 refine At.le ?_ hk.1
 refine ziE (P:=fun k D=>k ∈ D/\k.size<=1048576/\k.size ≠ 0) (fun x D D' h hs=>⟨hs x h.1,h.2⟩) (fun k m D h=>?_) ks m' D' fun k hk'=>⟨(hk.2 k hk').1,(hk.2 k hk').2.1,zc4 (hk.2 k hk').2.2⟩
 unfold K.forkOne
 refine At.bind (c:=0) (d:=1) (zgZ ⟨h.2.2,by omega⟩ h.1) fun v m2 D2 hD _ _=>?_
 refine zdj (KeyW.of (zdW (zfq to)) (by decide) ?_)
 rw [ByteArray.size_append,ByteArray.size_extract]
 omega
theorem zj7 (text:ByteArray):At L (K.putOut text) m D 3 (fun _ _ _=>True):=by
 unfold K.putOut
 refine At.ite (fun _=>?_) fun _=>(At.ret trivial).le (by omega)
 refine At.bind (d:=2) (zaZ zjI.1) fun n m' D' hn _ _=>At.ite (fun _=>(At.ret trivial).le (by omega)) fun _=>?_
 refine At.bind (d:=1) (zah zjI) fun _ m' D' _ _ _=>?_
 exact At.bind (d:=0) (zdj (zcs (b:=100) rfl (by decide) ⟨by omega,by omega⟩ (by decide))) fun _ _ _ _ _ _=>At.ret trivial
theorem zka {c:CallD} (hG:∀ k ∈ gk,k ∈ D):At L (K.doFile c) m D 1 (fun _ _ _=>True):=by
 unfold K.doFile
 refine At.bind (d:=0) (zbM c.name) fun id m' D' hid _ hs=>At.ite (fun _=>At.ret trivial) fun _=>At.ite (fun _=>?_) fun _=>At.ite (fun _=>?_) fun _=>?_
 all_goals have hG':∀ k ∈ gk,k ∈ D':=fun k h=>hs k (hG k h)
 ·exact At.bind (d:=0) (zii hid.1 hid.2 hG') fun _ _ _ _ _ _=>At.ret trivial
 ·exact At.bind (d:=0) (zhF hid.1 hid.2 hG') fun _ _ _ _ _ _=>At.ret trivial
 ·exact At.bind (d:=0) (zi9 hid.1 hid.2 hG') fun _ _ _ _ _ _=>At.ret trivial
theorem zcR {x:Mp Int} {c:Nat} (h:At L x m D c (fun _ _ _=>True)):At L (K.code x) m D c (fun _ _ _=>True):=At.bind (d:=0) h fun _ _ _ _ _ _=>At.ret trivial
theorem zd3 {x:Mp (Int × Int)} {c:Nat} (h:At L x m D c (fun _ _ _=>True)):At L (K.codeN x) m D c (fun _ _ _=>True):=At.bind (d:=0) h fun _ _ _ _ _ _=>At.ret trivial
theorem ziF {x:Mp (ByteArray × Int)} {c:Nat} (h:At L x m D c (fun _ _ _=>True)):At L (K.codeT x) m D c (fun _ _ _=>True):=At.bind (d:=0) h fun _ _ _ _ _ _=>At.ret trivial
theorem zj9 {proc:Int} {c:CallD} (hp:zca proc) (ha:zca c.a) (hk:c.kind ≠ 12) (hG:∀ k ∈ gk,k ∈ D):At L (K.doKind proc c) m D 10 (fun _ _ _=>True):=by
 unfold K.doKind
 refine At.ite (fun _=>(zd3 (zik _)).le (by omega)) fun _=>At.ite (fun _=>(zcR (zim _ _)).le (by omega)) fun _=>At.ite (fun _=>(zcR (zd0 _)).le (by omega)) fun _=>At.ite (fun _=>(zcR (zgY _ _)).le (by omega)) fun _=>?_
 refine At.ite (fun _=>(At.bind (d:=0) at_names fun _ _ _ _ _ _=>At.ret trivial).le (by omega)) fun _=>At.ite (fun _=>(zka hG).le (by omega)) fun _=>At.ite (fun _=>(zd3 zij).le (by omega)) fun _=>At.ite (fun _=>(zcR (zi7 ha)).le (by omega)) fun _=>At.ite (fun _=>(ziF (zig ha)).le (by omega)) fun _=>?_
 refine At.ite (fun h=>absurd h hk) fun _=>At.ite (fun _=>?_) fun _=>At.ite (fun _=>(zd3 (at_reap ha)).le (by omega)) fun _=>At.ite (fun _=>(At.bind (d:=0) (at_kids proc) fun _ _ _ _ _ _=>At.ret trivial).le (by omega)) fun _=>?_
 ·unfold K.doEnd
  refine (At.bind (d:=1) (zi8 hp) fun r m' D' _ _ _=>At.ite (fun _=>At.bind (d:=0) (zhK hp) fun _ _ _ _ _ _=>At.ret trivial) fun _=>(At.ret trivial).le (by omega)).le (by omega)
 ·exact At.ite (fun _=>(zcR (at_send ha)).le (by omega)) fun _=>At.ite (fun _=>(zd3 (zgX hp)).le (by omega)) fun _=>At.ite (fun _=>(zcR (zih hp)).le (by omega)) fun _=>At.ite (fun _=>(zd3 (at_tick hG)).le (by omega)) fun _=>At.ite (fun _=>(zcR (zhG hp)).le (by omega)) fun _=>At.ite (fun _=>(ziF (zil hp)).le (by omega)) fun _=>(zcR (zj7 _)).le (by omega)
end
end Go.Proofs.YtodokkpnafabpaaGreatDoor
