/- Texts of this claim, merged: the walks and what they stand on. Each condition stands in its theorem. -/
import Derived.Test.YtpnoehpmgflibaaGreatDoorCA11
set_option linter.unusedVariables false
set_option linter.unusedSimpArgs false
set_option maxRecDepth 100000
set_option maxHeartbeats 8000000
namespace Go.Proofs.YtpnoehpmgflibaaGreatDoor
open Go.ChangeShapes Go.WideShapes Go.ChangeAt Go.RowKit
open Mp
open Classical
section
variable {L:Nat} {m:MachD} {D:List ByteArray}
theorem zg2 {id p:Int} (h0 : 0<=id) (h1:id<=999) (p0 : 0<=p) (p1:p<=130) (hG:∀ k ∈ gk,k ∈ D):At L (K.block id p) m D 0 (fun _ _ D'=>D'=D):=by
 unfold K.block
 exact At.bind (d:=0) (ziu (zdF ⟨by omega,by omega⟩ ⟨by omega,by omega⟩).1 (hG _ (zgc h0 h1 p0 p1))) fun _ m' D' hD _ _=>At.ret hD.1
theorem zi0 {a b p:Nat} (hb:b<=1040) (h:p ∈ K.places a b):p<=130:=by
 unfold K.places at h
 rw [List.mem_range'] at h
 obtain ⟨i,hi,rfl⟩:=h
 omega
theorem zki {id a n:Int} (h0 : 0<=id) (h1:id<=999) (hG:∀ k ∈ gk,k ∈ D):At L (K.readFile id a n) m D 0 (fun _ _ _=>True):=by
 unfold K.readFile
 refine At.bind (d:=0) (zdx (zcR ⟨by omega,by omega⟩).1 (hG _ (zfv h0 h1))) fun s m' D' hs _ _=>At.ite (fun _=>At.ret trivial) fun hn=>?_
 have hG':∀ k ∈ gk,k ∈ D':=by rw [hs.1];exact hG
 refine (zgf (T:=fun _=>True) _ _ m' trivial fun p hp b m _=>?_).mono fun _ _ _ _ _=>trivial
 have hp2:=zi0 (by omega) hp
 unfold K.readBlock
 exact At.bind (d:=0) (zg2 h0 h1 (by omega) (by omega) hG') fun _ _ _ hD _ _=>At.ret ⟨hD,trivial⟩
theorem zju {id a:Int} {text:ByteArray} (h0 : 0<=id) (h1:id<=999) (hG:∀ k ∈ gk,k ∈ D):At L (K.writeFile id a text) m D 0 (fun _ _ _=>True):=by
 unfold K.writeFile
 refine At.bind (d:=0) (zdx (zcR ⟨by omega,by omega⟩).1 (hG _ (zfv h0 h1))) fun s m' D' hs _ _=>At.ite (fun _=>At.ret trivial) fun hn=>At.ite (fun _=>At.ret trivial) fun h64=>?_
 have hG':∀ k ∈ gk,k ∈ D':=by rw [hs.1];exact hG
 have hE:At L (Mp.each (K.writeBlock id text a.toNat (a.toNat+text.size)) (K.places a.toNat (a.toNat+text.size))) m' D' 0 (fun _ _ D''=>D''=D'):=zgg _ m' fun p hp m=>by
  have hp2:=zi0 (by omega) hp
  unfold K.writeBlock
  refine At.bind (d:=0) (zg2 h0 h1 (by omega) (by omega) hG') fun _ m' D' hD _ _=>?_
  subst hD
  exact zfA (zdF ⟨by omega,by omega⟩ ⟨by omega,by omega⟩) (hG' _ (zgc h0 h1 (by omega) (by omega)))
 refine At.bind (d:=0) hE fun _ m2 D2 hD _ _=>?_
 subst hD
 refine At.ite (fun _=>?_) fun _=>?_
 ·exact At.bind (d:=0) (zcX (zcR ⟨by omega,by omega⟩) (hG' _ (zfv h0 h1))) fun _ _ _ _ _ _=>At.ret trivial
 ·exact At.ret trivial
theorem zlr {id n:Int} (h0 : 0<=id) (h1:id<=999) (hG:∀ k ∈ gk,k ∈ D):At L (K.cutFile id n) m D 0 (fun _ _ _=>True):=by
 unfold K.cutFile
 refine At.bind (d:=0) (zdx (zcR ⟨by omega,by omega⟩).1 (hG _ (zfv h0 h1))) fun s m' D' hs _ _=>At.ite (fun _=>At.ret trivial) fun hn=>?_
 have hG':∀ k ∈ gk,k ∈ D':=by rw [hs.1];exact hG
 have hE:∀ (a b:Nat) (m:MachD),a+b<=130->At L (Mp.each (fun p:Nat=>K.lay (K.blockKey id (p:Int)) ⟨#[]⟩) (List.range' a b)) m D' 0 (fun _ _ D''=>D''=D'):=fun a b m hab=>zgg _ m fun p hp m=>by
  rw [List.mem_range'] at hp
  obtain ⟨i,hi,rfl⟩:=hp
  exact zfA (zdF ⟨by omega,by omega⟩ ⟨by omega,by omega⟩) (hG' _ (zgc h0 h1 (by omega) (by omega)))
 refine At.ite (fun _=>?_) fun _=>?_
 ·refine At.bind (d:=0) (zg2 h0 h1 (by omega) (by omega) hG') fun _ m2 D2 hD _ _=>?_
  subst hD
  refine At.bind (d:=0) (zfA (zdF ⟨by omega,by omega⟩ ⟨by omega,by omega⟩) (hG' _ (zgc h0 h1 (by omega) (by omega)))) fun _ m3 D3 hD _ _=>?_
  subst hD
  refine At.bind (d:=0) (hE _ _ m3 (by omega)) fun _ m4 D4 hD _ _=>?_
  subst hD
  exact At.bind (d:=0) (zcX (zcR ⟨by omega,by omega⟩) (hG' _ (zfv h0 h1))) fun _ _ _ _ _ _=>At.ret trivial
 ·refine At.bind (d:=0) (hE _ _ m' (by omega)) fun _ m4 D4 hD _ _=>?_
  subst hD
  exact At.bind (d:=0) (zcX (zcR ⟨by omega,by omega⟩) (hG' _ (zfv h0 h1))) fun _ _ _ _ _ _=>At.ret trivial
theorem zkj:At L K.makePipe m D 4 (fun _ _ _=>True):=by
 unfold K.makePipe
 refine At.bind (d:=3) (zbg zjc.1) fun n m' D' _ _ _=>At.ite (fun _=>(At.ret trivial).le (by omega)) fun _=>?_
 refine At.bind (d:=1) (zmE zjc) fun id m' D' hid _ _=>?_
 exact At.bind (d:=0) (zak (zbt ⟨by omega,by omega⟩ (by decide))) fun _ _ _ _ _ _=>At.ret trivial
theorem zjw {id:Int} (h:zby id):At L (K.isPipe id) m D 1 (fun _ _ _=>True):=by
 unfold K.isPipe
 exact At.bind (d:=0) (zbg (zbt h (by decide)).1) fun _ _ _ _ _ _=>At.ret trivial
theorem zlp {id:Int} {text:ByteArray} (h:zby id):At L (K.putPipe id text) m D 5 (fun _ _ _=>True):=by
 unfold K.putPipe
 refine At.bind (d:=4) (zjw h) fun is m' D' _ _ _=>At.ite (fun _=>(At.ret trivial).le (by omega)) fun _=>At.ite (fun _=>(At.ret trivial).le (by omega)) fun _=>?_
 refine At.bind (d:=3) (zbg (zbt h (by decide)).1) fun tl m' D' ht _ _=>?_
 refine At.bind (d:=2) (zbg (zbt h (by decide)).1) fun hd m' D' _ _ _=>At.ite (fun _=>(At.ret trivial).le (by omega)) fun _=>At.ite (fun _=>(At.ret trivial).le (by omega)) fun _=>?_
 refine At.bind (d:=1) (zak (zbt h (by decide))) fun _ m' D' _ _ _=>?_
 exact At.bind (d:=0) (zd7 (zfr h ⟨by omega,by omega⟩)) fun _ _ _ _ _ _=>At.ret trivial
theorem zhP {k:ByteArray} (hk:zhS k):At L (K.message k) m D 1 (fun _ _ _=>True):=by
 unfold K.message
 exact At.bind (d:=0) (zmB hk) fun _ _ _ _ _ _=>At.ret trivial
theorem zkg {id:Int} (h:zby id):At L (K.takePipe id) m D 6 (fun _ _ _=>True):=by
 unfold K.takePipe
 refine At.bind (d:=5) (zjw h) fun is m' D' _ _ _=>At.ite (fun _=>(At.ret trivial).le (by omega)) fun _=>?_
 refine At.bind (d:=4) (zbg (zbt h (by decide)).1) fun hd m' D' ht _ _=>?_
 refine At.bind (d:=3) (zbg (zbt h (by decide)).1) fun tl m' D' _ _ _=>At.ite (fun _=>(At.ret trivial).le (by omega)) fun _=>?_
 refine At.bind (d:=2) (zhP (zfr h ⟨by omega,by omega⟩).1) fun t m' D' _ _ _=>?_
 refine At.bind (d:=1) (zd7 (zfr h ⟨by omega,by omega⟩)) fun _ m' D' _ _ _=>?_
 exact At.bind (d:=0) (zak (zbt h (by decide))) fun _ _ _ _ _ _=>At.ret trivial
theorem ze4 {id:Int} (h:zby id):At L (K.state id) m D 1 (fun a _ _=>0<=a/\a<=999):=zbg (zbs h (by decide)).1
theorem zlq {id n:Int} (h:zby id):At L (K.endProc id n) m D 3 (fun _ _ _=>True):=by
 unfold K.endProc
 refine At.bind (d:=2) (ze4 h) fun s m' D' _ _ _=>At.ite (fun _=>(At.ret trivial).le (by omega)) fun _=>At.ite (fun _=>(At.ret trivial).le (by omega)) fun _=>?_
 refine At.bind (d:=1) (zak (zbs h (by decide))) fun _ m' D' _ _ _=>?_
 exact At.bind (d:=0) (zak (zbs h (by decide))) fun _ _ _ _ _ _=>At.ret trivial
theorem zgK {hd t:ByteArray} {id:Int} (h:zby id) (hz:hd.size+t.size<=100):(zO hd id t).size<=1000:=by
 have:=zbu hd t id h
 omega
theorem at_reap {parent id:Int} (h:zby id):At L (K.reap parent id) m D 4 (fun _ _ _=>True):=by
 unfold K.reap
 refine At.bind (d:=3) (zbg (zbs h (by decide)).1) fun own m' D' _ _ _=>At.ite (fun _=>(At.ret trivial).le (by omega)) fun _=>?_
 refine At.bind (d:=2) (ze4 h) fun s m' D' _ _ _=>At.ite (fun _=>(At.ret trivial).le (by omega)) fun _=>At.ite (fun _=>(At.ret trivial).le (by omega)) fun _=>?_
 refine At.bind (d:=1) (zbg (zbs h (by decide)).1) fun n m' D' _ _ _=>?_
 exact At.bind (d:=0) (zkf (b:=114) (zb8 rfl) (by decide) (zgK h (by decide))) fun _ _ _ _ _ _=>At.ret trivial
theorem at_kids (parent:Int):At L (K.kids parent) m D 1 (fun l _ _=>∀ x ∈ l,0<=x/\x<=999):=by
 unfold K.kids
 refine At.bind (d:=0) (ze3 (b:=114) rfl (by decide)) fun ks m' D' hk I hs=>?_
 refine (zgf (T:=fun l:List Int=>∀ x ∈ l,0<=x/\x<=999) ks [] m' (fun x hx=>by cases hx) fun k hk' l m hl=>?_).mono fun _ _ _ _ h=>h.2
 unfold K.kid
 refine At.ite (fun _=>?_) fun _=>At.ret ⟨rfl,hl⟩
 have h3:=hk.2 k hk'
 refine At.bind (d:=0) (zdx ⟨zdN h3.2.2,by omega⟩ h3.1) fun up m' D' hD _ _=>At.ret ⟨hD.1,?_⟩
 split
 ·intro x hx
  rcases List.mem_append.1 hx with hx|hx
  ·exact hl x hx
  ·rw [List.mem_singleton] at hx
   subst hx
   exact zeN _
 ·exact hl
theorem at_send {to n:Int} (h:zby to):At L (K.send to n) m D 5 (fun _ _ _=>True):=by
 unfold K.send
 refine At.bind (d:=4) (ze4 h) fun s m' D' _ _ _=>At.ite (fun _=>(At.ret trivial).le (by omega)) fun _=>At.ite (fun _=>(At.ret trivial).le (by omega)) fun _=>?_
 refine At.bind (d:=3) (zbg (zbD h (by decide)).1) fun tl m' D' ht _ _=>?_
 refine At.bind (d:=2) (zbg (zbD h (by decide)).1) fun hd m' D' _ _ _=>At.ite (fun _=>(At.ret trivial).le (by omega)) fun _=>At.ite (fun _=>(At.ret trivial).le (by omega)) fun _=>?_
 refine At.bind (d:=1) (zak (zbD h (by decide))) fun _ m' D' _ _ _=>?_
 exact At.bind (d:=0) (zak (zeS h ⟨by omega,by omega⟩)) fun _ _ _ _ _ _=>At.ret trivial
theorem at_send0 {to n:Int} (h0 : 0<=to) (h1:to<=999) (hG:∀ k ∈ gk,k ∈ D):At L (K.send to n) m D 0 (fun _ _ D'=>D'=D):=by
 have h:zby to:=⟨by omega,by omega⟩
 unfold K.send
 refine At.bind (d:=0) (zdx (zbs h (by decide)).1 (hG _ (gk_state h0 h1))) fun s m' D' hs _ _=>?_
 obtain ⟨rfl,_⟩:=hs
 refine At.ite (fun _=>At.ret rfl) fun _=>At.ite (fun _=>At.ret rfl) fun _=>?_
 refine At.bind (d:=0) (zdx (zbD h (by decide)).1 (hG _ (zmk h0 h1))) fun tl m' D' ht _ _=>?_
 obtain ⟨rfl,ht⟩:=ht
 refine At.bind (d:=0) (zdx (zbD h (by decide)).1 (hG _ (gk_sigH h0 h1))) fun hd m' D' hh _ _=>?_
 obtain ⟨rfl,_⟩:=hh
 refine At.ite (fun _=>At.ret rfl) fun _=>At.ite (fun _=>At.ret rfl) fun _=>?_
 refine At.bind (d:=0) (zcX (zbD h (by decide)) (hG _ (zmk h0 h1))) fun _ m' D' hD _ _=>?_
 subst hD
 exact At.bind (d:=0) (zcX (zeS h ⟨by omega,by omega⟩) (hG _ (gk_sigQ h0 h1 (by omega) (by omega)))) fun _ _ _ hD _ _=>At.ret hD
theorem zis {id:Int} (h:zby id):At L (K.takeSignal id) m D 5 (fun _ _ _=>True):=by
 unfold K.takeSignal
 refine At.bind (d:=4) (zbg (zbD h (by decide)).1) fun hd m' D' ht _ _=>?_
 refine At.bind (d:=3) (zbg (zbD h (by decide)).1) fun tl m' D' _ _ _=>At.ite (fun _=>(At.ret trivial).le (by omega)) fun _=>?_
 refine At.bind (d:=2) (zbg (zeS h ⟨by omega,by omega⟩).1) fun n m' D' _ _ _=>?_
 refine At.bind (d:=1) (zd7 (zeS h ⟨by omega,by omega⟩)) fun _ m' D' _ _ _=>?_
 exact At.bind (d:=0) (zak (zbD h (by decide))) fun _ _ _ _ _ _=>At.ret trivial
theorem zkh {id a:Int} (h:zby id):At L (K.setTimer id a) m D 1 (fun _ _ _=>True):=by
 unfold K.setTimer
 refine At.ite (fun _=>?_) fun _=>(At.ret trivial).le (by omega)
 exact At.bind (d:=0) (zak (zc5 (b:=116) rfl (by decide) h (by decide))) fun _ _ _ _ _ _=>At.ret trivial
theorem at_tick {n:Int} (hG:∀ k ∈ gk,k ∈ D):At L (K.tick n) m D 3 (fun _ _ _=>True):=by
 unfold K.tick
 refine At.ite (fun _=>(At.ret trivial).le (by omega)) fun _=>?_
 refine At.bind (d:=2) (zbg zhK.1) fun c m' D' _ _ hs=>At.ite (fun _=>(At.ret trivial).le (by omega)) fun _=>?_
 refine At.bind (d:=1) (zak zhK) fun _ m2 D2 _ _ hs2=>?_
 refine At.bind (d:=0) (ze3 (b:=116) rfl (by decide)) fun ks m3 D3 hk I3 hs3=>?_
 have hG3:∀ k ∈ gk,k ∈ D3:=fun k h=>hs3 k (hs2 k (hs k (hG k h)))
 refine At.bind (d:=0) (S:=fun _ _ _=>True) ((zgf (T:=fun _:Int=>True) ks 0 m3 trivial fun k hk' cnt m _=>?_).mono fun _ _ _ _ _=>trivial) fun _ _ _ _ _ _=>At.ret trivial
 have h3:=hk.2 k hk'
 have hkb:zhS k:=⟨zdN h3.2.2,by omega⟩
 unfold K.tickOne
 refine At.bind (d:=0) (zdx hkb h3.1) fun a m4 D4 hD _ _=>?_
 obtain ⟨rfl,_⟩:=hD
 refine At.ite (fun _=>At.ret ⟨rfl,trivial⟩) fun _=>?_
 refine At.bind (d:=0) (zfA (KeyW.of h3.2.2 (by decide) (by omega)) h3.1) fun _ m5 D5 hD _ _=>?_
 subst hD
 have hb:=zeN (k.extract 2 k.size)
 exact At.bind (d:=0) (at_send0 hb.1 hb.2 hG3) fun _ _ _ hD _ _=>At.ret ⟨hD,trivial⟩
theorem zjv {id page:Int} {text:ByteArray} (h:zby id):At L (K.storePage id page text) m D 1 (fun _ _ _=>True):=by
 unfold K.storePage
 refine At.ite (fun hp=>?_) fun _=>(At.ret trivial).le (by omega)
 exact At.bind (d:=0) (zd7 (zjd h ⟨by omega,by omega⟩)) fun _ _ _ _ _ _=>At.ret trivial
theorem zkl {id page:Int} (h:zby id):At L (K.loadPage id page) m D 1 (fun _ _ _=>True):=by
 unfold K.loadPage
 refine At.ite (fun hp=>?_) fun _=>(At.ret trivial).le (by omega)
 exact At.bind (d:=0) (zhP (zjd h ⟨by omega,by omega⟩).1) fun _ _ _ _ _ _=>At.ret trivial
theorem zgI (id:Int):zil (K.pagesKey id)=some 109:=zb8 rfl
theorem zjy {id:Int} (h:zby id):At L (K.dropPages id) m D 1 (fun _ _ _=>True):=zkf (zgI id) (by decide) (zgK h (by decide))
theorem zjx {frm to:Int} (hf:zby frm) (ht:zby to):At L (K.forkPages frm to) m D (1+(L+D.length)) (fun _ _ _=>True):=by
 unfold K.forkPages
 refine At.bind (d:=L+D.length) (ze3 (zgI frm) (zgK hf (by decide))) fun ks m' D' hk I hs=>?_
 have hzt:(K.pagesKey to).size<=50:=by
  have:=zbu K.nM K.slash to ht
  have h1:K.nM.size=2:=rfl
  have h2:K.slash.size=1:=rfl
  show (zO K.nM to K.slash).size<=50
  omega
 refine At.le ?_ hk.1
 refine zkM (P:=fun k D=>k ∈ D/\k.size<=1048576/\k.size ≠ 0) (fun x D D' h hs=>⟨hs x h.1,h.2⟩) (fun k m D h=>?_) ks m' D' fun k hk'=>⟨(hk.2 k hk').1,(hk.2 k hk').2.1,zdN (hk.2 k hk').2.2⟩
 unfold K.forkOne
 refine At.bind (c:=0) (d:=1) (ziu ⟨h.2.2,by omega⟩ h.1) fun v m2 D2 hD _ _=>?_
 refine zd7 (KeyW.of (zeY (zgI to)) (by decide) ?_)
 rw [ByteArray.size_append,ByteArray.size_extract]
 omega
theorem zmA (text:ByteArray):At L (K.putOut text) m D 3 (fun _ _ _=>True):=by
 unfold K.putOut
 refine At.ite (fun _=>?_) fun _=>(At.ret trivial).le (by omega)
 refine At.bind (d:=2) (zbg zma.1) fun n m' D' hn _ _=>At.ite (fun _=>(At.ret trivial).le (by omega)) fun _=>?_
 refine At.bind (d:=1) (zak zma) fun _ m' D' _ _ _=>?_
 exact At.bind (d:=0) (zd7 (zc5 (b:=100) rfl (by decide) ⟨by omega,by omega⟩ (by decide))) fun _ _ _ _ _ _=>At.ret trivial
theorem zmD {c:CallD} (hG:∀ k ∈ gk,k ∈ D):At L (K.doFile c) m D 1 (fun _ _ _=>True):=by
 unfold K.doFile
 refine At.bind (d:=0) (zcl c.name) fun id m' D' hid _ hs=>At.ite (fun _=>At.ret trivial) fun _=>At.ite (fun _=>?_) fun _=>At.ite (fun _=>?_) fun _=>?_
 all_goals have hG':∀ k ∈ gk,k ∈ D':=fun k h=>hs k (hG k h)
 ·exact At.bind (d:=0) (zki hid.1 hid.2 hG') fun _ _ _ _ _ _=>At.ret trivial
 ·exact At.bind (d:=0) (zju hid.1 hid.2 hG') fun _ _ _ _ _ _=>At.ret trivial
 ·exact At.bind (d:=0) (zlr hid.1 hid.2 hG') fun _ _ _ _ _ _=>At.ret trivial
theorem zdy {x:Mp Int} {c:Nat} (h:At L x m D c (fun _ _ _=>True)):At L (K.code x) m D c (fun _ _ _=>True):=At.bind (d:=0) h fun _ _ _ _ _ _=>At.ret trivial
theorem ze5 {x:Mp (Int × Int)} {c:Nat} (h:At L x m D c (fun _ _ _=>True)):At L (K.codeN x) m D c (fun _ _ _=>True):=At.bind (d:=0) h fun _ _ _ _ _ _=>At.ret trivial
theorem zkN {x:Mp (ByteArray × Int)} {c:Nat} (h:At L x m D c (fun _ _ _=>True)):At L (K.codeT x) m D c (fun _ _ _=>True):=At.bind (d:=0) h fun _ _ _ _ _ _=>At.ret trivial
theorem zmC {proc:Int} {c:CallD} (hp:zby proc) (ha:zby c.a) (hk:c.kind ≠ 12) (hG:∀ k ∈ gk,k ∈ D):At L (K.doKind proc c) m D 10 (fun _ _ _=>True):=by
 unfold K.doKind
 refine At.ite (fun _=>(ze5 (zkk _)).le (by omega)) fun _=>At.ite (fun _=>(zdy (zkm _ _)).le (by omega)) fun _=>At.ite (fun _=>(zdy (ze2 _)).le (by omega)) fun _=>At.ite (fun _=>(zdy (zit _ _)).le (by omega)) fun _=>?_
 refine At.ite (fun _=>(At.bind (d:=0) at_names fun _ _ _ _ _ _=>At.ret trivial).le (by omega)) fun _=>At.ite (fun _=>(zmD hG).le (by omega)) fun _=>At.ite (fun _=>(ze5 zkj).le (by omega)) fun _=>At.ite (fun _=>(zdy (zlp ha)).le (by omega)) fun _=>At.ite (fun _=>(zkN (zkg ha)).le (by omega)) fun _=>?_
 refine At.ite (fun h=>absurd h hk) fun _=>At.ite (fun _=>?_) fun _=>At.ite (fun _=>(ze5 (at_reap ha)).le (by omega)) fun _=>At.ite (fun _=>(At.bind (d:=0) (at_kids proc) fun _ _ _ _ _ _=>At.ret trivial).le (by omega)) fun _=>?_
 ·unfold K.doEnd
  refine (At.bind (d:=1) (zlq hp) fun r m' D' _ _ _=>At.ite (fun _=>At.bind (d:=0) (zjy hp) fun _ _ _ _ _ _=>At.ret trivial) fun _=>(At.ret trivial).le (by omega)).le (by omega)
 ·exact At.ite (fun _=>(zdy (at_send ha)).le (by omega)) fun _=>At.ite (fun _=>(ze5 (zis hp)).le (by omega)) fun _=>At.ite (fun _=>(zdy (zkh hp)).le (by omega)) fun _=>At.ite (fun _=>(ze5 (at_tick hG)).le (by omega)) fun _=>At.ite (fun _=>(zdy (zjv hp)).le (by omega)) fun _=>At.ite (fun _=>(zkN (zkl hp)).le (by omega)) fun _=>(zdy (zmA _)).le (by omega)
end
end Go.Proofs.YtpnoehpmgflibaaGreatDoor
