/- Texts of this claim, merged: the walks and what they stand on. Each condition stands in its theorem. -/
import Derived.Test.YtgcmnkkakngifaaGreatDoorCA10
set_option linter.unusedVariables false
set_option linter.unusedSimpArgs false
set_option maxRecDepth 100000
set_option maxHeartbeats 8000000
namespace Go.Proofs.YtgcmnkkakngifaaGreatDoor
open Go.ChangeShapes Go.WideShapes Go.ChangeAt Go.RowKit
open Mp
open Classical
section
variable {L:Nat} {m:MachD} {D:List ByteArray}
theorem zfI {id p:Int} (h0 : 0<=id) (h1:id<=999) (p0 : 0<=p) (p1:p<=130) (hG:∀ k ∈ gk,k ∈ D):At L (K.block id p) m D 0 (fun _ _ D'=>D'=D):=by
 unfold K.block
 exact At.bind (d:=0) (zgY (zcY ⟨by omega,by omega⟩ ⟨by omega,by omega⟩).1 (hG _ (zeY h0 h1 p0 p1))) fun _ m' D' hD _ _=>At.ret hD.1
theorem zhg {a b p:Nat} (hb:b<=1040) (h:p ∈ K.places a b):p<=130:=by
 unfold K.places at h
 rw [List.mem_range'] at h
 obtain ⟨i,hi,rfl⟩:=h
 omega
theorem zih {id a n:Int} (h0 : 0<=id) (h1:id<=999) (hG:∀ k ∈ gk,k ∈ D):At L (K.readFile id a n) m D 0 (fun _ _ _=>True):=by
 unfold K.readFile
 refine At.bind (d:=0) (zcP (zb9 ⟨by omega,by omega⟩).1 (hG _ (zer h0 h1))) fun s m' D' hs _ _=>At.ite (fun _=>At.ret trivial) fun hn=>?_
 have hG':∀ k ∈ gk,k ∈ D':=by rw [hs.1];exact hG
 refine (ze1 (T:=fun _=>True) _ _ m' trivial fun p hp b m _=>?_).mono fun _ _ _ _ _=>trivial
 have hp2:=zhg (by omega) hp
 unfold K.readBlock
 exact At.bind (d:=0) (zfI h0 h1 (by omega) (by omega) hG') fun _ _ _ hD _ _=>At.ret ⟨hD,trivial⟩
theorem zhE {id a:Int} {text:ByteArray} (h0 : 0<=id) (h1:id<=999) (hG:∀ k ∈ gk,k ∈ D):At L (K.writeFile id a text) m D 0 (fun _ _ _=>True):=by
 unfold K.writeFile
 refine At.bind (d:=0) (zcP (zb9 ⟨by omega,by omega⟩).1 (hG _ (zer h0 h1))) fun s m' D' hs _ _=>At.ite (fun _=>At.ret trivial) fun hn=>At.ite (fun _=>At.ret trivial) fun h64=>?_
 have hG':∀ k ∈ gk,k ∈ D':=by rw [hs.1];exact hG
 have hE:At L (Mp.each (K.writeBlock id text a.toNat (a.toNat + text.size)) (K.places a.toNat (a.toNat + text.size))) m' D' 0 (fun _ _ D''=>D''=D'):=ze2 _ m' fun p hp m=>by
  have hp2:=zhg (by omega) hp
  unfold K.writeBlock
  refine At.bind (d:=0) (zfI h0 h1 (by omega) (by omega) hG') fun _ m' D' hD _ _=>?_
  subst hD
  exact zev (zcY ⟨by omega,by omega⟩ ⟨by omega,by omega⟩) (hG' _ (zeY h0 h1 (by omega) (by omega)))
 refine At.bind (d:=0) hE fun _ m2 D2 hD _ _=>?_
 subst hD
 refine At.ite (fun _=>?_) fun _=>?_
 ·exact At.bind (d:=0) (zcg (zb9 ⟨by omega,by omega⟩) (hG' _ (zer h0 h1))) fun _ _ _ _ _ _=>At.ret trivial
 ·exact At.ret trivial
theorem zi7 {id n:Int} (h0 : 0<=id) (h1:id<=999) (hG:∀ k ∈ gk,k ∈ D):At L (K.cutFile id n) m D 0 (fun _ _ _=>True):=by
 unfold K.cutFile
 refine At.bind (d:=0) (zcP (zb9 ⟨by omega,by omega⟩).1 (hG _ (zer h0 h1))) fun s m' D' hs _ _=>At.ite (fun _=>At.ret trivial) fun hn=>?_
 have hG':∀ k ∈ gk,k ∈ D':=by rw [hs.1];exact hG
 have hE:∀ (a b:Nat) (m:MachD),a + b<=130->At L (Mp.each (fun p:Nat=>K.lay (K.blockKey id (p:Int)) ⟨#[]⟩) (List.range' a b)) m D' 0 (fun _ _ D''=>D''=D'):=fun a b m hab=>ze2 _ m fun p hp m=>by
  rw [List.mem_range'] at hp
  obtain ⟨i,hi,rfl⟩:=hp
  exact zev (zcY ⟨by omega,by omega⟩ ⟨by omega,by omega⟩) (hG' _ (zeY h0 h1 (by omega) (by omega)))
 refine At.ite (fun _=>?_) fun _=>?_
 ·refine At.bind (d:=0) (zfI h0 h1 (by omega) (by omega) hG') fun _ m2 D2 hD _ _=>?_
  subst hD
  refine At.bind (d:=0) (zev (zcY ⟨by omega,by omega⟩ ⟨by omega,by omega⟩) (hG' _ (zeY h0 h1 (by omega) (by omega)))) fun _ m3 D3 hD _ _=>?_
  subst hD
  refine At.bind (d:=0) (hE _ _ m3 (by omega)) fun _ m4 D4 hD _ _=>?_
  subst hD
  exact At.bind (d:=0) (zcg (zb9 ⟨by omega,by omega⟩) (hG' _ (zer h0 h1))) fun _ _ _ _ _ _=>At.ret trivial
 ·refine At.bind (d:=0) (hE _ _ m' (by omega)) fun _ m4 D4 hD _ _=>?_
  subst hD
  exact At.bind (d:=0) (zcg (zb9 ⟨by omega,by omega⟩) (hG' _ (zer h0 h1))) fun _ _ _ _ _ _=>At.ret trivial
theorem zii:At L K.makePipe m D 4 (fun _ _ _=>True):=by
 unfold K.makePipe
 refine At.bind (d:=3) (zaY zhp.1) fun n m' D' _ _ _=>At.ite (fun _=>(At.ret trivial).le (by omega)) fun _=>?_
 refine At.bind (d:=1) (zj9 zhp) fun id m' D' hid _ _=>?_
 exact At.bind (d:=0) (zag (za6 ⟨by omega,by omega⟩ (by decide))) fun _ _ _ _ _ _=>At.ret trivial
theorem zhG {id:Int} (h:zb7 id):At L (K.isPipe id) m D 1 (fun _ _ _=>True):=by
 unfold K.isPipe
 exact At.bind (d:=0) (zaY (za6 h (by decide)).1) fun _ _ _ _ _ _=>At.ret trivial
theorem zi5 {id:Int} {text:ByteArray} (h:zb7 id):At L (K.putPipe id text) m D 5 (fun _ _ _=>True):=by
 unfold K.putPipe
 refine At.bind (d:=4) (zhG h) fun is m' D' _ _ _=>At.ite (fun _=>(At.ret trivial).le (by omega)) fun _=>At.ite (fun _=>(At.ret trivial).le (by omega)) fun _=>?_
 refine At.bind (d:=3) (zaY (za6 h (by decide)).1) fun tl m' D' ht _ _=>?_
 refine At.bind (d:=2) (zaY (za6 h (by decide)).1) fun hd m' D' _ _ _=>At.ite (fun _=>(At.ret trivial).le (by omega)) fun _=>At.ite (fun _=>(At.ret trivial).le (by omega)) fun _=>?_
 refine At.bind (d:=1) (zag (za6 h (by decide))) fun _ m' D' _ _ _=>?_
 exact At.bind (d:=0) (zdi (zem h ⟨by omega,by omega⟩)) fun _ _ _ _ _ _=>At.ret trivial
theorem zgp {k:ByteArray} (hk:zhL k):At L (K.message k) m D 1 (fun _ _ _=>True):=by
 unfold K.message
 exact At.bind (d:=0) (zj6 hk) fun _ _ _ _ _ _=>At.ret trivial
theorem zif {id:Int} (h:zb7 id):At L (K.takePipe id) m D 6 (fun _ _ _=>True):=by
 unfold K.takePipe
 refine At.bind (d:=5) (zhG h) fun is m' D' _ _ _=>At.ite (fun _=>(At.ret trivial).le (by omega)) fun _=>?_
 refine At.bind (d:=4) (zaY (za6 h (by decide)).1) fun hd m' D' ht _ _=>?_
 refine At.bind (d:=3) (zaY (za6 h (by decide)).1) fun tl m' D' _ _ _=>At.ite (fun _=>(At.ret trivial).le (by omega)) fun _=>?_
 refine At.bind (d:=2) (zgp (zem h ⟨by omega,by omega⟩).1) fun t m' D' _ _ _=>?_
 refine At.bind (d:=1) (zdi (zem h ⟨by omega,by omega⟩)) fun _ m' D' _ _ _=>?_
 exact At.bind (d:=0) (zag (za6 h (by decide))) fun _ _ _ _ _ _=>At.ret trivial
theorem zd0 {id:Int} (h:zb7 id):At L (K.state id) m D 1 (fun a _ _=>0<=a/\a<=999):=zaY (za5 h (by decide)).1
theorem zi6 {id n:Int} (h:zb7 id):At L (K.endProc id n) m D 3 (fun _ _ _=>True):=by
 unfold K.endProc
 refine At.bind (d:=2) (zd0 h) fun s m' D' _ _ _=>At.ite (fun _=>(At.ret trivial).le (by omega)) fun _=>At.ite (fun _=>(At.ret trivial).le (by omega)) fun _=>?_
 refine At.bind (d:=1) (zag (za5 h (by decide))) fun _ m' D' _ _ _=>?_
 exact At.bind (d:=0) (zag (za5 h (by decide))) fun _ _ _ _ _ _=>At.ret trivial
theorem zfq {hd t:ByteArray} {id:Int} (h:zb7 id) (hz:hd.size + t.size<=100):(zP hd id t).size<=1000:=by
 have:=za7 hd t id h
 omega
theorem at_reap {parent id:Int} (h:zb7 id):At L (K.reap parent id) m D 4 (fun _ _ _=>True):=by
 unfold K.reap
 refine At.bind (d:=3) (zaY (za5 h (by decide)).1) fun own m' D' _ _ _=>At.ite (fun _=>(At.ret trivial).le (by omega)) fun _=>?_
 refine At.bind (d:=2) (zd0 h) fun s m' D' _ _ _=>At.ite (fun _=>(At.ret trivial).le (by omega)) fun _=>At.ite (fun _=>(At.ret trivial).le (by omega)) fun _=>?_
 refine At.bind (d:=1) (zaY (za5 h (by decide)).1) fun n m' D' _ _ _=>?_
 exact At.bind (d:=0) (zie (b:=114) (zby rfl) (by decide) (zfq h (by decide))) fun _ _ _ _ _ _=>At.ret trivial
theorem at_kids (parent:Int):At L (K.kids parent) m D 1 (fun l _ _=>∀ x ∈ l,0<=x/\x<=999):=by
 unfold K.kids
 refine At.bind (d:=0) (zdZ (b:=114) rfl (by decide)) fun ks m' D' hk I hs=>?_
 refine (ze1 (T:=fun l:List Int=>∀ x ∈ l,0<=x/\x<=999) ks [] m' (fun x hx=>by cases hx) fun k hk' l m hl=>?_).mono fun _ _ _ _ h=>h.2
 unfold K.kid
 refine At.ite (fun _=>?_) fun _=>At.ret ⟨rfl,hl⟩
 have h3:=hk.2 k hk'
 refine At.bind (d:=0) (zcP ⟨zc3 h3.2.2,by omega⟩ h3.1) fun up m' D' hD _ _=>At.ret ⟨hD.1,?_⟩
 split
 ·intro x hx
  rcases List.mem_append.1 hx with hx|hx
  ·exact hl x hx
  ·rw [List.mem_singleton] at hx
   subst hx
   exact zco _
 ·exact hl
theorem at_send {to n:Int} (h:zb7 to):At L (K.send to n) m D 5 (fun _ _ _=>True):=by
 unfold K.send
 refine At.bind (d:=4) (zd0 h) fun s m' D' _ _ _=>At.ite (fun _=>(At.ret trivial).le (by omega)) fun _=>At.ite (fun _=>(At.ret trivial).le (by omega)) fun _=>?_
 refine At.bind (d:=3) (zaY (zbd h (by decide)).1) fun tl m' D' ht _ _=>?_
 refine At.bind (d:=2) (zaY (zbd h (by decide)).1) fun hd m' D' _ _ _=>At.ite (fun _=>(At.ret trivial).le (by omega)) fun _=>At.ite (fun _=>(At.ret trivial).le (by omega)) fun _=>?_
 refine At.bind (d:=1) (zag (zbd h (by decide))) fun _ m' D' _ _ _=>?_
 exact At.bind (d:=0) (zag (zdP h ⟨by omega,by omega⟩)) fun _ _ _ _ _ _=>At.ret trivial
theorem at_send0 {to n:Int} (h0 : 0<=to) (h1:to<=999) (hG:∀ k ∈ gk,k ∈ D):At L (K.send to n) m D 0 (fun _ _ D'=>D'=D):=by
 have h:zb7 to:=⟨by omega,by omega⟩
 unfold K.send
 refine At.bind (d:=0) (zcP (za5 h (by decide)).1 (hG _ (gk_state h0 h1))) fun s m' D' hs _ _=>?_
 obtain ⟨rfl,_⟩:=hs
 refine At.ite (fun _=>At.ret rfl) fun _=>At.ite (fun _=>At.ret rfl) fun _=>?_
 refine At.bind (d:=0) (zcP (zbd h (by decide)).1 (hG _ (zjQ h0 h1))) fun tl m' D' ht _ _=>?_
 obtain ⟨rfl,ht⟩:=ht
 refine At.bind (d:=0) (zcP (zbd h (by decide)).1 (hG _ (gk_sigH h0 h1))) fun hd m' D' hh _ _=>?_
 obtain ⟨rfl,_⟩:=hh
 refine At.ite (fun _=>At.ret rfl) fun _=>At.ite (fun _=>At.ret rfl) fun _=>?_
 refine At.bind (d:=0) (zcg (zbd h (by decide)) (hG _ (zjQ h0 h1))) fun _ m' D' hD _ _=>?_
 subst hD
 exact At.bind (d:=0) (zcg (zdP h ⟨by omega,by omega⟩) (hG _ (gk_sigQ h0 h1 (by omega) (by omega)))) fun _ _ _ hD _ _=>At.ret hD
theorem zgW {id:Int} (h:zb7 id):At L (K.takeSignal id) m D 5 (fun _ _ _=>True):=by
 unfold K.takeSignal
 refine At.bind (d:=4) (zaY (zbd h (by decide)).1) fun hd m' D' ht _ _=>?_
 refine At.bind (d:=3) (zaY (zbd h (by decide)).1) fun tl m' D' _ _ _=>At.ite (fun _=>(At.ret trivial).le (by omega)) fun _=>?_
 refine At.bind (d:=2) (zaY (zdP h ⟨by omega,by omega⟩).1) fun n m' D' _ _ _=>?_
 refine At.bind (d:=1) (zdi (zdP h ⟨by omega,by omega⟩)) fun _ m' D' _ _ _=>?_
 exact At.bind (d:=0) (zag (zbd h (by decide))) fun _ _ _ _ _ _=>At.ret trivial
theorem zig {id a:Int} (h:zb7 id):At L (K.setTimer id a) m D 1 (fun _ _ _=>True):=by
 unfold K.setTimer
 refine At.ite (fun _=>?_) fun _=>(At.ret trivial).le (by omega)
 exact At.bind (d:=0) (zag (zcq (b:=116) rfl (by decide) h (by decide))) fun _ _ _ _ _ _=>At.ret trivial
theorem at_tick {n:Int} (hG:∀ k ∈ gk,k ∈ D):At L (K.tick n) m D 3 (fun _ _ _=>True):=by
 unfold K.tick
 refine At.ite (fun _=>(At.ret trivial).le (by omega)) fun _=>?_
 refine At.bind (d:=2) (zaY zgk.1) fun c m' D' _ _ hs=>At.ite (fun _=>(At.ret trivial).le (by omega)) fun _=>?_
 refine At.bind (d:=1) (zag zgk) fun _ m2 D2 _ _ hs2=>?_
 refine At.bind (d:=0) (zdZ (b:=116) rfl (by decide)) fun ks m3 D3 hk I3 hs3=>?_
 have hG3:∀ k ∈ gk,k ∈ D3:=fun k h=>hs3 k (hs2 k (hs k (hG k h)))
 refine At.bind (d:=0) (S:=fun _ _ _=>True) ((ze1 (T:=fun _:Int=>True) ks 0 m3 trivial fun k hk' cnt m _=>?_).mono fun _ _ _ _ _=>trivial) fun _ _ _ _ _ _=>At.ret trivial
 have h3:=hk.2 k hk'
 have hkb:zhL k:=⟨zc3 h3.2.2,by omega⟩
 unfold K.tickOne
 refine At.bind (d:=0) (zcP hkb h3.1) fun a m4 D4 hD _ _=>?_
 obtain ⟨rfl,_⟩:=hD
 refine At.ite (fun _=>At.ret ⟨rfl,trivial⟩) fun _=>?_
 refine At.bind (d:=0) (zev (KeyW.of h3.2.2 (by decide) (by omega)) h3.1) fun _ m5 D5 hD _ _=>?_
 subst hD
 have hb:=zco (k.extract 2 k.size)
 exact At.bind (d:=0) (at_send0 hb.1 hb.2 hG3) fun _ _ _ hD _ _=>At.ret ⟨hD,trivial⟩
theorem zhF {id page:Int} {text:ByteArray} (h:zb7 id):At L (K.storePage id page text) m D 1 (fun _ _ _=>True):=by
 unfold K.storePage
 refine At.ite (fun hp=>?_) fun _=>(At.ret trivial).le (by omega)
 exact At.bind (d:=0) (zdi (zhq h ⟨by omega,by omega⟩)) fun _ _ _ _ _ _=>At.ret trivial
theorem zik {id page:Int} (h:zb7 id):At L (K.loadPage id page) m D 1 (fun _ _ _=>True):=by
 unfold K.loadPage
 refine At.ite (fun hp=>?_) fun _=>(At.ret trivial).le (by omega)
 exact At.bind (d:=0) (zgp (zhq h ⟨by omega,by omega⟩).1) fun _ _ _ _ _ _=>At.ret trivial
theorem zfp (id:Int):zgS (K.pagesKey id)=some 109:=zby rfl
theorem zhI {id:Int} (h:zb7 id):At L (K.dropPages id) m D 1 (fun _ _ _=>True):=zie (zfp id) (by decide) (zfq h (by decide))
theorem zhH {frm to:Int} (hf:zb7 frm) (ht:zb7 to):At L (K.forkPages frm to) m D (1 + (L + D.length)) (fun _ _ _=>True):=by
 unfold K.forkPages
 refine At.bind (d:=L + D.length) (zdZ (zfp frm) (zfq hf (by decide))) fun ks m' D' hk I hs=>?_
 have hzt:(K.pagesKey to).size<=50:=by
  have:=za7 K.nM K.slash to ht
  have h1:K.nM.size=2:=rfl
  have h2:K.slash.size=1:=rfl
  show (zP K.nM to K.slash).size<=50
  omega
 refine At.le ?_ hk.1
 refine ziC (P:=fun k D=>k ∈ D/\k.size<=1048576/\k.size ≠ 0) (fun x D D' h hs=>⟨hs x h.1,h.2⟩) (fun k m D h=>?_) ks m' D' fun k hk'=>⟨(hk.2 k hk').1,(hk.2 k hk').2.1,zc3 (hk.2 k hk').2.2⟩
 unfold K.forkOne
 refine At.bind (c:=0) (d:=1) (zgY ⟨h.2.2,by omega⟩ h.1) fun v m2 D2 hD _ _=>?_
 refine zdi (KeyW.of (zdU (zfp to)) (by decide) ?_)
 rw [ByteArray.size_append,ByteArray.size_extract]
 omega
theorem zj5 (text:ByteArray):At L (K.putOut text) m D 3 (fun _ _ _=>True):=by
 unfold K.putOut
 refine At.ite (fun _=>?_) fun _=>(At.ret trivial).le (by omega)
 refine At.bind (d:=2) (zaY zjF.1) fun n m' D' hn _ _=>At.ite (fun _=>(At.ret trivial).le (by omega)) fun _=>?_
 refine At.bind (d:=1) (zag zjF) fun _ m' D' _ _ _=>?_
 exact At.bind (d:=0) (zdi (zcq (b:=100) rfl (by decide) ⟨by omega,by omega⟩ (by decide))) fun _ _ _ _ _ _=>At.ret trivial
theorem zj8 {c:CallD} (hG:∀ k ∈ gk,k ∈ D):At L (K.doFile c) m D 1 (fun _ _ _=>True):=by
 unfold K.doFile
 refine At.bind (d:=0) (zbI c.name) fun id m' D' hid _ hs=>At.ite (fun _=>At.ret trivial) fun _=>At.ite (fun _=>?_) fun _=>At.ite (fun _=>?_) fun _=>?_
 all_goals have hG':∀ k ∈ gk,k ∈ D':=fun k h=>hs k (hG k h)
 ·exact At.bind (d:=0) (zih hid.1 hid.2 hG') fun _ _ _ _ _ _=>At.ret trivial
 ·exact At.bind (d:=0) (zhE hid.1 hid.2 hG') fun _ _ _ _ _ _=>At.ret trivial
 ·exact At.bind (d:=0) (zi7 hid.1 hid.2 hG') fun _ _ _ _ _ _=>At.ret trivial
theorem zcQ {x:Mp Int} {c:Nat} (h:At L x m D c (fun _ _ _=>True)):At L (K.code x) m D c (fun _ _ _=>True):=At.bind (d:=0) h fun _ _ _ _ _ _=>At.ret trivial
theorem zd1 {x:Mp (Int × Int)} {c:Nat} (h:At L x m D c (fun _ _ _=>True)):At L (K.codeN x) m D c (fun _ _ _=>True):=At.bind (d:=0) h fun _ _ _ _ _ _=>At.ret trivial
theorem ziD {x:Mp (ByteArray × Int)} {c:Nat} (h:At L x m D c (fun _ _ _=>True)):At L (K.codeT x) m D c (fun _ _ _=>True):=At.bind (d:=0) h fun _ _ _ _ _ _=>At.ret trivial
theorem zj7 {proc:Int} {c:CallD} (hp:zb7 proc) (ha:zb7 c.a) (hk:c.kind ≠ 12) (hG:∀ k ∈ gk,k ∈ D):At L (K.doKind proc c) m D 10 (fun _ _ _=>True):=by
 unfold K.doKind
 refine At.ite (fun _=>(zd1 (zij _)).le (by omega)) fun _=>At.ite (fun _=>(zcQ (zil _ _)).le (by omega)) fun _=>At.ite (fun _=>(zcQ (zdY _)).le (by omega)) fun _=>At.ite (fun _=>(zcQ (zgX _ _)).le (by omega)) fun _=>?_
 refine At.ite (fun _=>(At.bind (d:=0) at_names fun _ _ _ _ _ _=>At.ret trivial).le (by omega)) fun _=>At.ite (fun _=>(zj8 hG).le (by omega)) fun _=>At.ite (fun _=>(zd1 zii).le (by omega)) fun _=>At.ite (fun _=>(zcQ (zi5 ha)).le (by omega)) fun _=>At.ite (fun _=>(ziD (zif ha)).le (by omega)) fun _=>?_
 refine At.ite (fun h=>absurd h hk) fun _=>At.ite (fun _=>?_) fun _=>At.ite (fun _=>(zd1 (at_reap ha)).le (by omega)) fun _=>At.ite (fun _=>(At.bind (d:=0) (at_kids proc) fun _ _ _ _ _ _=>At.ret trivial).le (by omega)) fun _=>?_
 ·unfold K.doEnd
  refine (At.bind (d:=1) (zi6 hp) fun r m' D' _ _ _=>At.ite (fun _=>At.bind (d:=0) (zhI hp) fun _ _ _ _ _ _=>At.ret trivial) fun _=>(At.ret trivial).le (by omega)).le (by omega)
 ·exact At.ite (fun _=>(zcQ (at_send ha)).le (by omega)) fun _=>At.ite (fun _=>(zd1 (zgW hp)).le (by omega)) fun _=>At.ite (fun _=>(zcQ (zig hp)).le (by omega)) fun _=>At.ite (fun _=>(zd1 (at_tick hG)).le (by omega)) fun _=>At.ite (fun _=>(zcQ (zhF hp)).le (by omega)) fun _=>At.ite (fun _=>(ziD (zik hp)).le (by omega)) fun _=>(zcQ (zj5 _)).le (by omega)
end
end Go.Proofs.YtgcmnkkakngifaaGreatDoor
