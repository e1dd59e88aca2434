/- Texts of this claim, merged: the walks and what they stand on. Each condition stands in its theorem. -/
import Derived.Laws.CopyOwn
import Derived.Lib.AppendZerosOnto
import Derived.Lib.Overlaps
import Derived.Test.YtpbcehcmdoncmaaGreatDoorCA4
set_option linter.unusedVariables false
set_option linter.unusedSimpArgs false
set_option maxRecDepth 100000
set_option maxHeartbeats 8000000
namespace Go.Proofs.YtpbcehcmdoncmaaGreatDoor
open Go.ChangeShapes Go.WideShapes Go.ChangeAt Go.RowKit
structure MachD where
 cells:List CellD
 rd:List ByteArray
 wr:List ByteArray
inductive Mp (α : Type) where
 | ret (a : α)
 | look (k:ByteArray) (f:ByteArray->Mp α)
 | lay (k v:ByteArray) (n:Mp α)
 | under (p:ByteArray) (f:List ByteArray->Mp α)
def zi9:ByteArray:=⟨#[42]⟩
def zZ (p:ByteArray) (cs:List CellD):List ByteArray:=(cs.filter fun c=>zau c.key p).map (·.key)
namespace MachD
def look (m:MachD) (k:ByteArray):MachD:={ m with rd:=zbF m.rd k }
def lay (m:MachD) (k v:ByteArray):MachD:={ m with wr:=zbF m.wr k,cells:=zbG k v m.cells }
def under (m:MachD) (p:ByteArray):MachD:={ m with rd:=zbF m.rd (p++zi9) }
end MachD
namespace Mp
variable {α β γ : Type}
def bind:Mp α->(α->Mp β)->Mp β
 | ret a,g=>g a
 | look k f,g=>look k fun x=>bind (f x) g
 | lay k v n,g=>lay k v (bind n g)
 | under p f,g=>under p fun x=>bind (f x) g
instance:Monad Mp where
 pure:=ret
 bind:=bind
def run:Mp α->MachD->α × MachD
 | ret a,m=>(a,m)
 | look k f,m=>run (f (zdG k m.cells)) (m.look k)
 | lay k v n,m=>run n (m.lay k v)
 | under p f,m=>run (f (zZ p m.cells)) (m.under p)
structure Small (m:MachD):Prop where
 cl:m.cells.length<=549755813888
 rl:m.rd.length<=549755813888
 wl:m.wr.length<=549755813888
 cz:∀ c ∈ m.cells,c.key.size<=1048576/\c.val.size<=1048576
 rz:∀ s ∈ m.rd,s.size<=8388608
 wz:∀ s ∈ m.wr,s.size<=8388608
 rn:∀ s ∈ m.rd,s.size ≠ 0
 wn:∀ s ∈ m.wr,s.size ≠ 0
def fits:Mp α->MachD->Prop
 | ret _,m=>Small m
 | look k f,m=>Small m/\k.size<=4194304/\fits (f (zdG k m.cells)) (m.look k)
 | lay k v n,m=>Small m/\k.size<=4194304/\fits n (m.lay k v)
 | under p f,m=>Small m/\p.size<=4194304/\fits (f (zZ p m.cells)) (m.under p)
theorem run_bind (x:Mp α) (f : α->Mp β) (m:MachD):(x >>= f).run m=(f (x.run m).1).run (x.run m).2:=by
 show (bind x f).run m = _
 induction x generalizing m with
 | ret a=>rfl
 | look k g ih=>exact ih _ _
 | lay k v n ih=>exact ih _
 | under p g ih=>exact ih _ _
theorem fits_small {x:Mp α} {m:MachD} (h:x.fits m):Small m:=by
 cases x with
 | ret a=>exact h
 | look k f=>exact h.1
 | lay k v n=>exact h.1
 | under p f=>exact h.1
theorem fits_bind (x:Mp α) (f : α->Mp β) (m:MachD):(x >>= f).fits m ↔ x.fits m/\(f (x.run m).1).fits (x.run m).2:=by
 show (bind x f).fits m ↔ _
 induction x generalizing m with
 | ret a =>
  constructor
  ·intro h
   exact ⟨fits_small h,h⟩
  ·exact fun h=>h.2
 | look k g ih =>
  simp only [bind,fits,run,ih]
  constructor
  ·rintro ⟨h1,h2,h3,h4⟩;exact ⟨⟨h1,h2,h3⟩,h4⟩
  ·rintro ⟨⟨h1,h2,h3⟩,h4⟩;exact ⟨h1,h2,h3,h4⟩
 | lay k v n ih =>
  simp only [bind,fits,run,ih]
  constructor
  ·rintro ⟨h1,h2,h3,h4⟩;exact ⟨⟨h1,h2,h3⟩,h4⟩
  ·rintro ⟨⟨h1,h2,h3⟩,h4⟩;exact ⟨h1,h2,h3,h4⟩
 | under p g ih =>
  simp only [bind,fits,run,ih]
  constructor
  ·rintro ⟨h1,h2,h3,h4⟩;exact ⟨⟨h1,h2,h3⟩,h4⟩
  ·rintro ⟨⟨h1,h2,h3⟩,h4⟩;exact ⟨h1,h2,h3,h4⟩
theorem fits_end {x:Mp α} {m:MachD} (h:x.fits m):Small (x.run m).2:=by
 induction x generalizing m with
 | ret a=>exact h
 | look k g ih=>exact ih _ h.2.2
 | lay k v n ih=>exact ih h.2.2
 | under p g ih=>exact ih _ h.2.2
theorem run_pure (a : α) (m:MachD):(pure a:Mp α).run m=(a,m):=rfl
def each (f : α->Mp Unit):List α->Mp Unit
 | []=>pure ()
 | x :: xs=>do f x;each f xs
def fold (f : β->α->Mp β) : β->List α->Mp β
 | b,[]=>pure b
 | b,x :: xs=>do let b <- f b x;fold f b xs
end Mp
open Mp
def zaN (v:ByteArray):Int:=if 1<=zhB v.data.toList/\zhB v.data.toList<=999/\Lib.itoa (zhB v.data.toList)=v.data.toList then zhB v.data.toList else 0
def zb1 (v:ByteArray):ByteArray:=match Lib.Hx.decode v.data.toList with
 | (d,.ok)=>if d.length<=20000/\Lib.Hx.encode d=v.data.toList then zQ d else ⟨#[]⟩
 | _=>⟨#[]⟩
theorem zjh {s:ByteArray} {n:Int} {b:Bool} (h:Num s.data.toList n b) (hb:b=true->Lib.itoa n=s.data.toList):zaN s=if b=true/\n<=999 then n else 0:=by
 unfold zaN
 cases b with
 | true =>
  have e:=hb rfl
  have hv:=(zdb (m:=n) h.1.1 (by have:=h.1.2;omega)).1
  rw [e] at hv
  rw [hv]
  by_cases h1 : 1<=n/\n<=999
  ·rw [if_pos ⟨h1.1,h1.2,e⟩,if_pos ⟨rfl,h1.2⟩]
  ·rw [if_neg (fun hh=>h1 ⟨hh.1,hh.2.1⟩)]
   have:=h.1.1
   by_cases h2:n<=999
   ·rw [if_pos ⟨rfl,h2⟩];omega
   ·rw [if_neg (fun hh=>h2 hh.2)]
 | false =>
  rw [if_neg (fun hh=>by
   have:=(h.2 _ hh.1 (by omega) hh.2.2.symm).2
   cases this),if_neg (fun hh=>by cases hh.1)]
theorem zgE {s r:ByteArray} (hr:r.size<=20000) (h:s.data.toList=zgV r):zb1 s=r:=by
 unfold zb1
 rw [h]
 unfold zgV
 rw [Lib.Hx.decode_encode]
 have hl:r.data.toList.length=r.size:=by simp
 dsimp only
 rw [if_pos ⟨by omega,rfl⟩,zaU]
theorem zhG {s:ByteArray} (h:∀ q,Unh s.data.toList q):zb1 s=⟨#[]⟩:=by
 unfold zb1
 split
 ·rename_i d hd
  split
  ·rename_i hh
   have a:=h (zQ d) (zQ d) (by rw [zS];exact hh.1) hh.2.symm
   have b:=h (zQ (0 :: d)) (zQ d) (by rw [zS];exact hh.1) hh.2.symm
   have c:=congrArg ByteArray.size b
   rw [zS,zS] at c
   simp at c
  ·rfl
 ·rfl
def zN (h:ByteArray) (n:Int) (t:ByteArray):ByteArray:=h++zQ (Lib.itoa n)++t
namespace K
def look (k:ByteArray):Mp ByteArray:=.look k .ret
def lay (k v:ByteArray):Mp Unit:=.lay k v (.ret ())
def under (p:ByteArray):Mp (List ByteArray):=.under p .ret
def wipe (p:ByteArray):Mp Unit:=do
 let ks <- under p
 each (fun k=>lay k ⟨#[]⟩) ks
def num (k:ByteArray):Mp Int:=do return zaN (<- look k)
def numText (n:Int):ByteArray:=if 1<=n/\n<=999 then zQ (Lib.itoa n) else ⟨#[]⟩
def setNum (k:ByteArray) (n:Int):Mp Unit:=lay k (numText n)
def bump (k:ByteArray):Mp Int:=do
 let n <- num k
 if 999<n+1 then return 0 else do
  setNum k (n+1)
  return n+1
def messageOf (v:ByteArray):ByteArray:=if v.data.toList.head?=some 45 then zb1 (v.extract 1 v.size) else ⟨#[]⟩
def message (k:ByteArray):Mp ByteArray:=do return messageOf (<- look k)
def nameByte (c:UInt8):Bool:=inB (c.toNat:Int) 97 122 || inB (c.toNat:Int) 48 57 || (c.toNat:Int)==46 || (c.toNat:Int)==45
def nameOk (s:ByteArray):Bool:=s.data.toList.all nameByte && inB (s.size:Int) 1 12
def nN:ByteArray:=⟨#[110,47]⟩
def nI:ByteArray:=⟨#[105,47]⟩
def tL:ByteArray:=⟨#[47,108]⟩
def cFile:ByteArray:=⟨#[99,47,102,105,108,101]⟩
def fileOf (name:ByteArray):Mp Int:=if nameOk name then num (nN++name) else return 0
def makeName (name:ByteArray):Mp (Int × Int) :=
 if nameOk name then do
  let id <- fileOf name
  if id ≠ 0 then return (0,1) else do
   let many <- num cFile
   if 20<=many then return (0,3) else do
    let id <- bump cFile
    setNum (nN++name) id
    setNum (zN nI id tL) 1
    return (id,0)
 else return (0,4)
def linkName (a b:ByteArray):Mp Int :=
 if nameOk a/\nameOk b then do
  let id <- fileOf a
  if id=0 then return 2 else do
   let other <- fileOf b
   if other ≠ 0 then return 1 else do
    let links <- num (zN nI id tL)
    if 4<=links then return 3 else do
     setNum (nN++b) id
     setNum (zN nI id tL) (links+1)
     return 0
 else return 4
def unlinkName (name:ByteArray):Mp Int :=
 if nameOk name then do
  let id <- fileOf name
  if id=0 then return 2 else do
   lay (nN++name) ⟨#[]⟩
   let links <- num (zN nI id tL)
   if 1<links then do
    setNum (zN nI id tL) (links - 1)
    return 0
   else do
    wipe (zN nI id ⟨#[47]⟩)
    return 0
 else return 4
def renameName (a b:ByteArray):Mp Int :=
 if nameOk a/\nameOk b then do
  let id <- fileOf a
  if id=0 then return 2 else do
   let other <- fileOf b
   if other=id then return 0 else do
    if other ≠ 0 then do
     let _ <- unlinkName b
     setNum (nN++b) id
     lay (nN++a) ⟨#[]⟩
     return 0
    else do
     setNum (nN++b) id
     lay (nN++a) ⟨#[]⟩
     return 0
 else return 4
def names:Mp (List ByteArray):=do return (<- under nN).map fun k=>k.extract 2 k.size
/-! ### files -/
def tS:ByteArray:=⟨#[47,115]⟩
def tB:ByteArray:=⟨#[47,98,47]⟩
def sizeKey (id:Int):ByteArray:=zN nI id tS
def blockKey (id place:Int):ByteArray:=zN (zN nI id tB) place ⟨#[]⟩
def block (id place:Int):Mp ByteArray:=do return zb1 (<- look (blockKey id place))
def places (a b:Nat):List Nat:=List.range' (a / 8) ((b+7) / 8 - a / 8)
def readBlock (id:Int) (a b:Nat) (out:ByteArray) (place:Nat):Mp ByteArray:=do
 let s <- block id place
 let lo:=a - place*8
 let hi:=min (b - place*8) (min 8 s.size)
 return if lo<hi then out++s.extract lo hi else out
def readFile (id a n:Int):Mp ByteArray:=do
 let size <- num (sizeKey id)
 if a<0 ∨ n<1 ∨ size<=a then return ⟨#[]⟩ else
  fold (readBlock id a.toNat (a+min n (size - a)).toNat) ⟨#[]⟩ (places a.toNat (a+min n (size - a)).toNat)
def setAt (b:List UInt8) (i:Nat) (c:UInt8):List UInt8:=(b++List.replicate (i+1 - b.length) 0).set i c
def wBlock (text:List UInt8) (a b place:Nat) (old:List UInt8):List UInt8 :=
 (List.range' (max a (place*8)) (min b (place*8+8) - max a (place*8))).foldl (fun l k=>setAt l (k - place*8) (text.getD (k - a) 0)) old
def writeBlock (id:Int) (text:ByteArray) (a b place:Nat):Mp Unit:=do
 let s <- block id place
 lay (blockKey id place) (zf8 (zQ (wBlock text.data.toList a b place s.data.toList)))
def writeFile (id a:Int) (text:ByteArray):Mp Int:=do
 let size <- num (sizeKey id)
 if ¬ (0<=a/\a<=size) ∨ text.size=0 then return 4 else
  if 64<a+text.size then return 3 else do
   each (writeBlock id text a.toNat (a.toNat+text.size)) (places a.toNat (a.toNat+text.size))
   if size<a+text.size then setNum (sizeKey id) (a+text.size) else pure ()
   return 0
def cutFile (id n:Int):Mp Int:=do
 let size <- num (sizeKey id)
 if ¬ (0<=n/\n<=size) then return 4 else
  if 0<n % 8 then do
   let s <- block id (n / 8)
   lay (blockKey id (n / 8)) (zf8 (s.extract 0 (min (n % 8).toNat s.size)))
   each (fun p:Nat=>lay (blockKey id (p:Int)) ⟨#[]⟩) (List.range' ((n / 8).toNat+1) ((size.toNat+7) / 8 - ((n / 8).toNat+1)))
   setNum (sizeKey id) n
   return 0
  else do
   each (fun p:Nat=>lay (blockKey id (p:Int)) ⟨#[]⟩) (List.range' (n / 8).toNat ((size.toNat+7) / 8 - (n / 8).toNat))
   setNum (sizeKey id) n
   return 0
/-! ### pipes -/
def nP:ByteArray:=⟨#[112,47]⟩
def tO:ByteArray:=⟨#[47,111]⟩
def tT:ByteArray:=⟨#[47,116]⟩
def tH:ByteArray:=⟨#[47,104]⟩
def tQ:ByteArray:=⟨#[47,113,47]⟩
def cPipe:ByteArray:=⟨#[99,47,112,105,112,101]⟩
def pipeKey (id:Int) (t:ByteArray):ByteArray:=zN nP id t
def dash:ByteArray:=⟨#[45]⟩
def makePipe:Mp (Int × Int):=do
 let many <- num cPipe
 if 8<=many then return (0,3) else do
  let id <- bump cPipe
  setNum (pipeKey id tO) 1
  return (id,0)
def isPipe (id:Int):Mp Bool:=do return (<- num (pipeKey id tO))==1
def putPipe (id:Int) (text:ByteArray):Mp Int:=do
 let is <- isPipe id
 if is=false then return 2 else
  if 20<text.size then return 4 else do
   let tail <- num (pipeKey id tT)
   let head <- num (pipeKey id tH)
   if 4<=tail - head then return 5 else
    if 999<=tail then return 3 else do
     setNum (pipeKey id tT) (tail+1)
     lay (zN (pipeKey id tQ) (tail+1) ⟨#[]⟩) (dash++zf8 text)
     return 0
def takePipe (id:Int):Mp (ByteArray × Int):=do
 let is <- isPipe id
 if is=false then return (⟨#[]⟩,2) else do
  let head <- num (pipeKey id tH)
  let tail <- num (pipeKey id tT)
  if tail=head then return (⟨#[]⟩,5) else do
   let text <- message (zN (pipeKey id tQ) (head+1) ⟨#[]⟩)
   lay (zN (pipeKey id tQ) (head+1) ⟨#[]⟩) ⟨#[]⟩
   setNum (pipeKey id tH) (head+1)
   return (text,0)
/-! ### processes -/
def nR:ByteArray:=⟨#[114,47]⟩
def tP:ByteArray:=⟨#[47,112]⟩
def tX:ByteArray:=⟨#[47,120]⟩
def slash:ByteArray:=⟨#[47]⟩
def cProc:ByteArray:=⟨#[99,47,112,114,111,99]⟩
def procKey (id:Int) (t:ByteArray):ByteArray:=zN nR id t
def state (id:Int):Mp Int:=num (procKey id tS)
def spawn (parent:Int):Mp (Int × Int):=do
 let many <- num cProc
 if 12<=many then return (0,3) else do
  let id <- bump cProc
  setNum (procKey id tS) 1
  setNum (procKey id tP) parent
  return (id,0)
def endProc (id n:Int):Mp Int:=do
 let s <- state id
 if s ≠ 1 then return 2 else
  if ¬ (0<=n/\n<=100) then return 4 else do
   setNum (procKey id tS) 2
   setNum (procKey id tX) (n+1)
   return 0
def reap (parent id:Int):Mp (Int × Int):=do
 let own <- num (procKey id tP)
 if own=0 ∨ own ≠ parent then return (0,2) else do
  let s <- state id
  if s=1 then return (0,5) else
   if s ≠ 2 then return (0,2) else do
    let n <- num (procKey id tX)
    wipe (procKey id slash)
    return (n - 1,0)
def isKidKey (key:ByteArray):Bool:=decide (5<=key.size) && ((key.extract (key.size - 2) key.size).data.toList == [47,112])
def kid (parent:Int) (out:List Int) (key:ByteArray):Mp (List Int) :=
 if isKidKey key then do
  let up <- num key
  return if up=parent then out ++ [zaN (key.extract 2 (key.size - 2))] else out
 else return out
def kids (parent:Int):Mp (List Int):=do
 let keys <- under nR
 fold (kid parent) [] keys
/-! ### signals -/
def nG:ByteArray:=⟨#[103,47]⟩
def nT:ByteArray:=⟨#[116,47]⟩
def cClock:ByteArray:=⟨#[99,47,99,108,111,99,107]⟩
def signalKey (id:Int) (t:ByteArray):ByteArray:=zN nG id t
def send (to n:Int):Mp Int:=do
 let s <- state to
 if s ≠ 1 then return 2 else
  if ¬ (1<=n/\n<=31) then return 4 else do
   let tail <- num (signalKey to tT)
   let head <- num (signalKey to tH)
   if 4<=tail - head then return 5 else
    if 999<=tail then return 3 else do
     setNum (signalKey to tT) (tail+1)
     setNum (zN (signalKey to tQ) (tail+1) ⟨#[]⟩) n
     return 0
def takeSignal (id:Int):Mp (Int × Int):=do
 let head <- num (signalKey id tH)
 let tail <- num (signalKey id tT)
 if tail=head then return (0,5) else do
  let n <- num (zN (signalKey id tQ) (head+1) ⟨#[]⟩)
  lay (zN (signalKey id tQ) (head+1) ⟨#[]⟩) ⟨#[]⟩
  setNum (signalKey id tH) (head+1)
  return (n,0)
def setTimer (id a:Int):Mp Int :=
 if 0<=a/\a<=999 then do
  setNum (zN nT id ⟨#[]⟩) a
  return 0
 else return 4
def tickOne (clock:Int) (count:Int) (key:ByteArray):Mp Int:=do
 let a <- num key
 if clock<a then return count else do
  lay key ⟨#[]⟩
  let _ <- send (zaN (key.extract 2 key.size)) 14
  return count+1
def tick (n:Int):Mp (Int × Int) :=
 if n<1 then return (0,4) else do
  let clock <- num cClock
  if 999 - clock<n then return (0,3) else do
   setNum cClock (clock+n)
   let keys <- under nT
   let k <- fold (tickOne (clock+n)) 0 keys
   return (k,0)
/-! ### pages, output -/
def nM:ByteArray:=⟨#[109,47]⟩
def pagesKey (id:Int):ByteArray:=zN nM id slash
def storePage (id page:Int) (text:ByteArray):Mp Int :=
 if (0<=page/\page<=3)/\text.size<=20 then do
  lay (zN (pagesKey id) page ⟨#[]⟩) (if text.size=0 then ⟨#[]⟩ else dash++zf8 text)
  return 0
 else return 4
def loadPage (id page:Int):Mp (ByteArray × Int) :=
 if 0<=page/\page<=3 then do
  let t <- message (zN (pagesKey id) page ⟨#[]⟩)
  return (t,0)
 else return (⟨#[]⟩,4)
def forkOne (frm to:Int) (key:ByteArray):Mp Unit:=do
 let v <- look key
 lay (pagesKey to++key.extract (pagesKey frm).size key.size) v
def forkPages (frm to:Int):Mp Unit:=do
 let keys <- under (pagesKey frm)
 each (forkOne frm to) keys
def dropPages (id:Int):Mp Unit:=wipe (pagesKey id)
def dN:ByteArray:=⟨#[100,47,110]⟩
def nD:ByteArray:=⟨#[100,47]⟩
def putOut (text:ByteArray):Mp Int :=
 if 1<=text.size/\text.size<=20 then do
  let n <- num dN
  if 40<=n then return 3 else do
   setNum dN (n+1)
   lay (zN nD (n+1) ⟨#[]⟩) (dash++zf8 text)
   return 0
 else return 4
/-! ### calls -/
def callOk (c:CallD):Bool:=(inB c.kind 1 22 && decide (c.name.size<=20)) && (decide (c.to.size<=20) && decide (c.text.size<=64))
def space:ByteArray:=⟨#[32]⟩
def wordsOf (l:List ByteArray):ByteArray:=l.foldl (fun t w=>t++(w++space)) ⟨#[]⟩
def doFile (c:CallD):Mp AnswerD:=do
 let id <- fileOf c.name
 if id=0 then return ⟨2,0,⟨#[]⟩⟩ else
  if c.kind=6 then do
   let t <- readFile id c.a c.b
   return ⟨0,0,t⟩
  else if c.kind=7 then do
   let r <- writeFile id c.a c.text
   return ⟨r,0,⟨#[]⟩⟩
  else do
   let r <- cutFile id c.a
   return ⟨r,0,⟨#[]⟩⟩
def code (x:Mp Int):Mp AnswerD:=do return ⟨<- x,0,⟨#[]⟩⟩
def codeN (x:Mp (Int × Int)):Mp AnswerD:=do
 let p <- x
 return ⟨p.2,p.1,⟨#[]⟩⟩
def codeT (x:Mp (ByteArray × Int)):Mp AnswerD:=do
 let p <- x
 return ⟨p.2,0,p.1⟩
def doSpawn (proc:Int):Mp AnswerD:=do
 let p <- spawn proc
 if p.2=0 then do
  forkPages proc p.1
  return ⟨p.2,p.1,⟨#[]⟩⟩
 else return ⟨p.2,p.1,⟨#[]⟩⟩
def doEnd (proc n:Int):Mp AnswerD:=do
 let r <- endProc proc n
 if r=0 then do
  dropPages proc
  return ⟨r,0,⟨#[]⟩⟩
 else return ⟨r,0,⟨#[]⟩⟩
def doNames:Mp AnswerD:=do return ⟨0,0,wordsOf (<- names)⟩
def doKids (proc:Int):Mp AnswerD:=do
 let l <- kids proc
 return ⟨0,0,wordsOf (l.map fun n=>zQ (Lib.itoa n))⟩
def doKind (proc:Int) (c:CallD):Mp AnswerD :=
 if c.kind=1 then codeN (makeName c.name)
 else if c.kind=2 then code (linkName c.name c.to)
 else if c.kind=3 then code (unlinkName c.name)
 else if c.kind=4 then code (renameName c.name c.to)
 else if c.kind=5 then doNames
 else if c.kind=6 ∨ c.kind=7 ∨ c.kind=8 then doFile c
 else if c.kind=9 then codeN makePipe
 else if c.kind=10 then code (putPipe c.a c.text)
 else if c.kind=11 then codeT (takePipe c.a)
 else if c.kind=12 then doSpawn proc
 else if c.kind=13 then doEnd proc c.a
 else if c.kind=14 then codeN (reap proc c.a)
 else if c.kind=15 then doKids proc
 else if c.kind=16 then code (send c.a c.b)
 else if c.kind=17 then codeN (takeSignal proc)
 else if c.kind=18 then code (setTimer proc c.a)
 else if c.kind=19 then codeN (tick c.a)
 else if c.kind=20 then code (storePage proc c.a c.text)
 else if c.kind=21 then codeT (loadPage proc c.a)
 else code (putOut c.text)
def doCall (proc:Int) (c:CallD):Mp AnswerD:=do
 let s <- state proc
 if s ≠ 1 then return ⟨2,0,⟨#[]⟩⟩ else
  if callOk c=false then return ⟨4,0,⟨#[]⟩⟩ else doKind proc c
end K
end Go.Proofs.YtpbcehcmdoncmaaGreatDoor
namespace Go
open Go.RowKit
theorem zfP {w:World} {g:Nat} {cur cs:Array Value} {t:TypeId} (hg:w.heap[g]?=some (.cells cur t (0,0))):w.setRow g cs=w.setB g (.cells cs t):=by
 unfold World.setRow World.setB
 congr 1
 apply Array.ext_getElem?
 intro i
 have hl:=za hg
 rw [Array.getElem?_modify,Array.getElem?_setIfInBounds]
 by_cases e:g=i
 ·subst e
  rw [if_pos rfl,if_pos rfl,if_pos hl,hg]
  rfl
 ·rw [if_neg e,if_neg e]
section
variable {P:Program} {w:World} {t e:TypeId} {k bytes:Nat}
theorem zbx (E:Elem P t e k bytes) (ty:TypeId) (g off dLen dCap:Nat) (ad:Addr) (sLen sCap:Nat) (cur:List Value) (T:TypeId) (hg:w.heap[g]?=some (.cells cur.toArray T (0,0)))
  (cs:List Value) (hn:cs.length=Nat.min sLen dLen*k) (hsrc:∀ j v,cs[j]?=some v->w.cell? (ad.add j)=some v) (hfit:off+cs.length<=cur.length) (h1:∀ v ∈ cs,v.oneCell'=true) :
  (Builtin.copy_ #[t,t] ty #[.slice (some ⟨g,off,none⟩) dLen dCap,.slice (some ad) sLen sCap]).run P w=.ok (goInt (Nat.min sLen dLen)) (w.setB g (.cells (splice cur off cs).toArray T)):=by
 obtain ⟨i,z,hi,hz,hs,hb,hzz⟩:=E.hi
 have hl:=run_loadCells_list (P:=P) w ad cs hsrc
 have hst:=run_storeCells_at P g off T cs 0 cur.toArray w hg (by simpa using hfit) h1
 rw [zfP hg] at hst
 have e1:(cur.toArray.toList.take (off+0)++cs++cur.toArray.toList.drop (off+0+cs.length))=splice cur off cs:=by unfold splice;simp
 rw [e1] at hst
 subst hs
 simp [Builtin.copy_,run_underlying E.ht,Builtin.lenOf,Builtin.firstCells,sizeOf,typeInfo,hi,<- hn,hl,hst]
theorem zis {tn:TypeId} (E:Elem P t e k bytes) (htn:P.underlying tn=some (.int .i64)) (base:Option Addr) (sLen sCap:Nat) (olds:List Value) (hol:olds.length=sLen*k) (hold:base=none->sLen=0) (hsrc:∀ ad,base=some ad->∀ j v,olds[j]?=some v->w.cell? (ad.add j)=some v)
  (m:Nat) (h0 : 0<m) (hg:sCap<sLen+m) (hbig:(sLen+m)*bytes<=140737488355328) (hmb:m*bytes<=281474976710656) (h63:sLen+m<=9223372036854775807) :
  ∃ (G:Nat) (L:List Value),sLen+m<=G/\G<=maxLen/\L.length=G*k/\L.take (sLen*k)=olds /\
   ∀ ty,(Builtin.append_ #[t,tn] ty #[.slice base sLen sCap,.int .i64 (m:Int)]).run P w=.ok (.slice (some ⟨w.heap.size,0,none⟩) (sLen+m) G) (w.drew.alloc (.cells L.toArray e)):=by
 obtain ⟨i,z,hi,hz,hs,hb,hzz⟩:=E.hi
 have hpos:=E.pos
 subst hs hb
 have ho:(Builtin.firstCells i.size sLen (.slice base sLen sCap)).run P w.drew=.ok olds.toArray w.drew:=by
  cases base with
  | none =>
   have:=hold rfl
   subst this
   have:olds = []:=List.eq_nil_of_length_eq_zero (by omega)
   subst this
   exact run_firstCells_none w.drew i.size 0 0 sCap
  | some ad=>exact run_firstCells_some w.drew i.size sLen ad sLen sCap olds hol (fun j v hj=>hsrc ad rfl j v hj)
 refine ⟨grownCap w (sLen+m) sCap e,olds++(Builtin.zeroCells z.cells m).toList++(Builtin.zeroCells z.cells (grownCap w (sLen+m) sCap e - (sLen+m))).toList,grownCap_ge w _ _ _,grownCap_le_maxLen w _ _ _ (by unfold maxLen;omega),?_,?_,fun ty=>?_⟩
 ·have hge:=grownCap_ge w (sLen+m) sCap e
  rw [List.length_append,List.length_append,hol]
  simp only [Builtin.zeroCells,Array.length_toList,Array.size_map,Array.size_range,hzz]
  rw [<- Nat.add_mul,<- Nat.add_mul]
  congr 1
  omega
 ·rw [List.append_assoc,<- hol,List.take_left]
 ·have h:=Lib.run_append_grow_zeros w t tn ty e i z .i64 .i64 E.ht htn hi hz base sLen sCap olds ho m h0 hpos hg (by omega) hmb (growslice_fits hg hbig)
  rw [h]
  congr 3
  apply Array.ext'
  simp
theorem zfh {o:Oper} {a:Act} {K:Act->World->Prop} {Q:Exit->Act->World->Prop} {w':World} {v u r:Value} (d s:Operand) (t:TypeId)
  (ho:o.op=.call { callee:=.builtin .copy,args:=#[d,s],argTypes:=#[t,t] }) (hd:a.eval d=v) (hs:a.eval s=u)
  (hr:(Builtin.copy_ #[t,t] o.type #[v,u]).run P w=.ok r w') (h:K (a.put o.dst r) w'):o.wp P a w K Q:=by
 unfold Oper.wp execOp
 simp only [ho,resolve,invoke,builtin,Sem.run_bind,Sem.run_pure,Result.andThen_ok,List.map_toArray,List.map_cons,List.map_nil,hd,hs,hr]
 exact h
theorem zfu {ops:Array Oper} {rest:List Oper} {o:Oper} {a:Act} {Q:Exit->Act->World->Prop} {w':World} {v u r:Value} (hgd:o.guard=none) (d s:Operand) (t tn:TypeId)
  (ho:o.op=.call { callee:=.builtin .append,args:=#[d,s],argTypes:=#[t,tn] }) (hd:a.eval d=v) (hs:a.eval s=u)
  (hr:(Builtin.append_ #[t,tn] o.type #[v,u]).run P w=.ok r w') (h:wpList P ops Q rest (a.put o.dst r) w'):wpList P ops Q (o :: rest) a w :=
 wpList_plain hgd fun _ hK=>by
  unfold Oper.wp execOp
  simp only [ho,resolve,invoke,builtin,Sem.run_bind,Sem.run_pure,Result.andThen_ok,List.map_toArray,List.map_cons,List.map_nil,hd,hs,hr]
  exact hK _ _ h
theorem zj6 {z:Value} (n:Nat) (hz:∀ u ∈ z.cells,u.oneCell'=true):∀ v ∈ (Builtin.zeroCells z.cells n).toList,v.oneCell'=true:=by
 intro v hv
 simp only [Builtin.zeroCells,Array.toList_map,List.mem_map,Array.mem_toList_iff,Array.mem_range] at hv
 obtain ⟨i,hi,rfl⟩:=hv
 have h0 : 0<z.cells.size:=by
  rcases Nat.eq_zero_or_pos z.cells.size with h|h
  ·rw [h] at hi;omega
  ·exact h
 have hlt:i % z.cells.size<z.cells.size:=Nat.mod_lt _ h0
 rw [getElem!_pos z.cells _ hlt]
 exact hz _ (Array.getElem_mem hlt)
theorem zjA (z:Value) (ht:P.underlying t=some (.slice e)) (hv0:(P.info? e).map (fun i=>i.zero)=some (some z)) (h1:∀ u ∈ z.cells,u.oneCell'=true) (ty:TypeId) (g off n c:Nat) (hn : 0<n) (cur:List Value) (T:TypeId) (hg:w.heap[g]?=some (.cells cur.toArray T (0,0)))
  (hfit:off+n*z.cells.size<=cur.length) :
  (Builtin.clear_ #[t] ty #[.slice (some ⟨g,off,none⟩) n c]).run P w=.ok (.tuple #[]) (w.setB g (.cells (splice cur off (Builtin.zeroCells z.cells n).toList).toArray T)):=by
 have hv:∀ w,(zeroValue e).run P w=.ok z w:=fun w=>by
  cases hi:P.info? e with
  | none=>rw [hi] at hv0;cases hv0
  | some i =>
   rw [hi] at hv0
   have hz:i.zero=some z:=by simpa using hv0
   simp [zeroValue,typeInfo,hi,hz]
 have hl:(Builtin.zeroCells z.cells n).toList.length=n*z.cells.size:=by simp [Builtin.zeroCells]
 have hst:=run_storeCells_at P g off T (Builtin.zeroCells z.cells n).toList 0 cur.toArray w hg (by rw [hl];simpa using hfit) (zj6 n h1)
 rw [zfP hg] at hst
 have e1:(cur.toArray.toList.take (off+0)++(Builtin.zeroCells z.cells n).toList++cur.toArray.toList.drop (off+0+(Builtin.zeroCells z.cells n).toList.length))=splice cur off (Builtin.zeroCells z.cells n).toList:=by unfold splice;simp
 rw [e1] at hst
 obtain ⟨m,rfl⟩ : ∃ m,n=m+1:=⟨n - 1,by omega⟩
 simp [Builtin.clear_,run_underlying ht,hv,hst]
end
theorem zfw {α : Type} (L:List α) (off:Nat) (cs:List α) (m:Nat) (h:m<=off) (hl:off<=L.length):(splice L off cs).take m=L.take m:=by
 unfold splice
 rw [List.take_append_of_le_length (by rw [List.length_take];omega),List.take_take,Nat.min_eq_left h]
theorem za7 {w w':World} {row:Option Nat} (h:w.grownBy w' row):Upon row.toList w w' :=
 ⟨h.os,h.tape,h.output,h.size,fun b hb hn=>h.block b hb (fun e=>hn (by rw [<- e];simp))⟩
theorem zgI {α : Type} (L:List α) (off:Nat) (cs:List α):splice L off cs=L.take off++(cs++L.drop (off+cs.length)):=rfl
theorem zfA {α : Type} (L:List α) (off:Nat) (cs ds:List α) (hl:off+cs.length+ds.length<=L.length):(splice (splice L off cs) (off+cs.length) ds).take (off+cs.length+ds.length)=L.take off++(cs++ds):=by
 have e1:(splice L off cs).take (off+cs.length)=L.take off++cs:=by
  unfold splice
  rw [<- List.append_assoc,List.take_left' (by rw [List.length_append,List.length_take];omega)]
 have e2:(splice (splice L off cs) (off+cs.length) ds)=(L.take off++cs)++(ds++(splice L off cs).drop (off+cs.length+ds.length)):=by
  rw [zgI (splice L off cs),e1]
 rw [e2,<- List.append_assoc,List.take_left' (by simp only [List.length_append,List.length_take];omega),List.append_assoc]
theorem zeU {α : Type} (L:List α) (off:Nat) (cs ds:List α) (hl:off+cs.length+ds.length<=L.length):(splice (splice L (off+cs.length) ds) off cs).take (off+cs.length+ds.length)=L.take off++(cs++ds):=by
 have e1:(splice L (off+cs.length) ds).take off=L.take off:=zfw _ _ _ _ (by omega) (by omega)
 have e2:(splice L (off+cs.length) ds).drop (off+cs.length)=ds++L.drop (off+cs.length+ds.length):=by
  unfold splice
  rw [List.drop_left' (by rw [List.length_take];omega)]
 have e3:splice (splice L (off+cs.length) ds) off cs=(L.take off++(cs++ds))++L.drop (off+cs.length+ds.length):=by
  rw [zgI (splice L (off+cs.length) ds),e1,e2]
  simp only [List.append_assoc]
 rw [e3,List.take_left' (by simp only [List.length_append,List.length_take];omega)]
end Go
namespace Go.Proofs.YtpbcehcmdoncmaaGreatDoor
open Go.ChangeShapes Go.WideShapes Go.ChangeAt Go.RowKit
theorem zem {α : Type} (p : α->Bool):∀ xs:List α,xs.any p=true->∃ n,∃ h:n<xs.length,(xs.take n).any p=false/\p xs[n]=true
 | [],h=>by cases h
 | x :: xs,h=>by
  cases hp:p x with
  | true=>exact ⟨0,by simp,rfl,hp⟩
  | false =>
   rw [List.any_cons,hp,Bool.false_or] at h
   obtain ⟨n,hn,h1,h2⟩:=zem p xs h
   exact ⟨n+1,by simpa using hn,by rw [List.take_succ_cons,List.any_cons,hp,h1];rfl,by simpa using h2⟩
theorem zeS (key:ByteArray) (xs:List CellD) (h:xs.any (zU key)=false):zA key xs=xs:=by
 unfold zA
 rw [List.filter_eq_self]
 intro c hc
 rw [List.any_eq_false] at h
 simpa using h c hc
theorem zfj (xs:List CellD):(xs.flatMap CellD.row).length=xs.length*2:=by
 have:=zu.flat_len xs
 exact this
theorem zbC (v:Value) (ds:List CellD) (key:ByteArray) (b0 B:Nat) (w:World) (ho:OwnL zu 61 w B v ds) (hb0:b0<w.heap.size) (hnb0:v.ownBlock ≠ some b0) (hc0:w.cell? ⟨b0,0,none⟩=some (.string key)) :
  Calls Tryz.prog 158 #[v,.func (Fn.func 159) #[] #[.pointer (some ⟨b0,0,none⟩)]] w fun e w'=>∃ v',e=.returned v'/\OwnL zu 61 w' B v' (zA key ds)/\v'.ownBlock=v.ownBlock/\Upon v.ownBlock.toList w w':=by
 have HOWN:=Hd ho
 cases hany:ds.any (zU key) with
 | false =>
  have HI:Hid (zam (zU key) ds = -1):=zax _ _ hany
  have HW:Hid (zA key ds=ds):=zeS key ds hany
  obtain ⟨ao,cap,rfl⟩:=ho.rd.form
  have HC:=Hd hc0
  clear ho hc0 hany
  go_enter Tryz.func158,Tryz.ntmps158
  go_wp2_with fail
  (go_at_call 160;refine (zcL _ ds key b0 _ HOWN.out.rd hb0 HC.out).mono ?_;rintro e w' ⟨rfl,hb⟩;obtain ⟨X,rfl⟩:=hb.ext;clear hb)
  rw [HI.out]
  go_wp2
  go_ret
  exact ⟨_,rfl,by rw [HW.out];exact HOWN.out.ext _,rfl,Upon.below (by repeat (first|with_reducible exact Below.refl _ _|with_reducible apply Below.ofExt|with_reducible apply Below.ofAlloc|with_reducible apply Below.drew|with_reducible apply Below.ofDrewN|with_reducible assumption|(with_reducible refine Below.setCell ?_ (by first|exact Nat.le_refl _|(simp [go_sem];done)|(simp [go_sem];omega)) _)))⟩
 | true =>
  obtain ⟨i0,hi0,hbef,hat⟩:=zem _ _ hany
  have HI:Hid (zam (zU key) ds=i0):=zat _ _ i0 hi0 hbef hat
  have HST:Hid (zA key (ds.take (i0+1))=ds.take i0):=by
   show _ = _
   rw [List.take_succ_eq_append_getElem hi0,zaG,hat,if_pos rfl,List.append_nil,zeS key _ hbef]
  clear hany hbef hat
  rcases ho.2 with ⟨_,h0⟩|⟨g,cap,cur,rfl,hg,hh,hn,hm,hsz,ht⟩
  ·have:ds = []:=List.eq_nil_of_length_eq_zero h0
   rw [this] at hi0
   simp at hi0
  have hgl:=za hh
  have hnb:b0 ≠ g:=fun e=>hnb0 (by rw [e];rfl)
  have hnb':¬ g=b0:=fun e=>hnb e.symm
  clear hnb0 ho
  have HH:=Hd hh
  have HT:Hid (cur.toList.take (ds.length*2)=ds.flatMap CellD.row):=ht
  have HSZ:Hid (cur.size=cap*2):=hsz
  have HE:Hid (w.setB g (.cells cur 61 (0,0))=w):=ze hh
  have HC:=Hd hc0
  have hce:∀ (n:Nat) (hk:n<ds.length),cur[n*2]?=some (.string ds[n].key)/\cur[n*2+1]?=some (.string ds[n].val):=by
   intro n hk
   obtain ⟨ao',cp',e1,_,_,_,hne⟩:=HOWN.out.rd.shape
   obtain ⟨b',off',rfl,_,hcell⟩:=hne (by intro e;rw [e] at hk;simp at hk)
   simp only [Value.slice.injEq,Option.some.injEq,Addr.mk.injEq,and_true,true_and] at e1
   obtain ⟨⟨rfl,rfl⟩,rfl⟩:=e1
   have h0:=hcell n hk 0 _ rfl
   have h1:=hcell n hk 1 _ rfl
   rw [zd HH.out] at h0 h1
   simp only [show zu.k=2 from rfl,Nat.zero_add,Nat.add_zero] at h0 h1
   exact ⟨h0,h1⟩
  clear hh ht hsz hc0
  unfold maxLen at hm
  refine zdw HH.out ?_
  go_enter Tryz.func158,Tryz.ntmps158
  go_wp2_with fail
  (go_at_call 160;refine (zcL _ ds key b0 _ (by rw [HE.out];exact HOWN.out.rd) (by simp [go_sem];omega) (by rw [HE.out];exact HC.out)).mono ?_;rintro e w' ⟨rfl,hb⟩;obtain ⟨X,rfl⟩:=hb.ext;clear hb)
  rw [HI.out]
  have HCE:=Hd hce
  clear hce
  have hne1:((i0:Int) == -1)=false:=beq_false_of_ne (by omega)
  go_wp2
  go_loopw [5,6] (fun iv jv wr=>∃ (k j:Nat) (cs:Array Value),iv=.int .i64 k/\jv=.int .i64 j/\k<j/\j<=ds.length/\Below (w.setB g (.cells cs 61)).heap.size (w.setB g (.cells cs 61)) wr/\cs.size=cap*2/\cs.toList.take (k*2)=(zA key (ds.take j)).flatMap CellD.row/\∀ m,j*2<=m->m<ds.length*2->cs[m]?=cur[m]?) (fun _ jv _=>ds.length - (intOf jv).toNat)
  case atStart=>exact ⟨i0,i0+1,cur,rfl,by go_num,by omega,by omega,(by repeat (first|with_reducible exact Below.refl _ _|with_reducible apply Below.ofExt|with_reducible apply Below.ofAlloc|with_reducible apply Below.drew|with_reducible apply Below.ofDrewN|with_reducible assumption|(with_reducible refine Below.setCell ?_ (by first|exact Nat.le_refl _|(simp [go_sem];done)|(simp [go_sem];omega)) _))),HSZ.out,by
   rw [HST.out]
   have h:=HT.out
   have h2:=congrArg (List.take (i0*2)) h
   rw [List.take_take,Nat.min_eq_left (by omega)] at h2
   rw [h2]
   have e:ds.flatMap CellD.row=(ds.take i0).flatMap CellD.row++(ds.drop i0).flatMap CellD.row:=by rw [<- List.flatMap_append,List.take_append_drop]
   rw [e,List.take_left' (by rw [zfj,List.length_take,Nat.min_eq_left (by omega)])],fun m _ _=>rfl⟩
  case round =>
   obtain ⟨k,j,cs,rfl,rfl,hkj,hj,hbel,hcs,htk,htl⟩:=hrel
   obtain ⟨Y,rfl⟩:=hbel.ext
   clear hbel
   have HTK:=Hd htk
   have HTL:=Hd htl
   have HCS:=Hd hcs
   clear htk htl hcs
   by_cases hlt:(j:Int)<ds.length
   case pos =>
    have hk:j<ds.length:=by omega
    obtain ⟨y0,y1⟩:=HCE.out j hk
    rw [<- HTL.out _ (by omega) (by omega)] at y0
    rw [<- HTL.out _ (by omega) (by omega)] at y1
    have hst:ds.take (j+1)=ds.take j ++ [ds[j]]:=List.take_succ_eq_append_getElem hk
    generalize ds[j]=d at y0 y1 hst
    have l0:k*2<cs.size:=by rw [HCS.out];omega
    have l1:k*2+1<cs.size:=by rw [HCS.out];omega
    have l4:g<w.heap.size+Y.bs.size:=by omega
    have l5:g<w.heap.size+Y.bs.size+1:=by omega
    have l6:¬ g=w.heap.size+Y.bs.size:=by omega
    cases hik:zU key d with
    | true =>
     have HS:Hid (zA key (ds.take (j+1))=zA key (ds.take j)):=by show _ = _;rw [hst,zaG,hik,if_pos rfl,List.append_nil]
     clear hst
     go_wp2_with fail
     (go_at_call 159;refine (zea d key b0 _ (by simp [go_sem];try omega) (by repeat (first|exact HC.out|refine Grew.cell (Grew.ext _ _) ?_|refine Grew.cell (Grew.alloc _ _) ?_|rw [za6 _ _ _ _ _ hnb]))).mono ?_;rintro e w' ⟨rfl,hb⟩;obtain ⟨X,rfl⟩:=hb.ext;clear hb)
     rw [hik]
     go_wp2
     go_roundw
     case rel=>exact ⟨k,j+1,cs,rfl,by go_num,by omega,by omega,(by repeat (first|with_reducible exact Below.refl _ _|with_reducible apply Below.ofExt|with_reducible apply Below.ofAlloc)),HCS.out,by rw [HS.out];exact HTK.out,fun m h1 h2=>HTL.out m (by omega) h2⟩
     case measure=>simp [intOf];omega
    | false =>
     have HS:Hid (zA key (ds.take (j+1))=zA key (ds.take j) ++ [d]):=by show _ = _;rw [hst,zaG,hik];rfl
     clear hst
     go_wp2_with fail
     (go_at_call 159;refine (zea d key b0 _ (by simp [go_sem];try omega) (by repeat (first|exact HC.out|refine Grew.cell (Grew.ext _ _) ?_|refine Grew.cell (Grew.alloc _ _) ?_|rw [za6 _ _ _ _ _ hnb]))).mono ?_;rintro e w' ⟨rfl,hb⟩;obtain ⟨X,rfl⟩:=hb.ext;clear hb)
     rw [hik]
     go_wp2
     go_roundw
     case rel=>exact ⟨k+1,j+1,_,by go_num,by go_num,by omega,by omega,(by repeat (first|with_reducible exact Below.refl _ _|with_reducible apply Below.ofExt|with_reducible apply Below.ofAlloc|with_reducible apply Below.drew|with_reducible apply Below.ofDrewN|with_reducible assumption|(with_reducible refine Below.setCell ?_ (by first|exact Nat.le_refl _|(simp [go_sem];done)|(simp [go_sem];omega)) _))),by simpa using HCS.out,by
      have h0:=zgF (v:=.string d.key) HTK.out rfl rfl (by omega)
      have h1:=zgF (p:=(k+1)*2) (v:=.string d.val) h0 rfl (by omega) (by simp;omega)
      rw [HS.out,List.flatMap_append]
      simpa [CellD.row] using h1,fun m h1 h2=>by
      rw [Array.getElem?_setIfInBounds_ne (by omega),Array.getElem?_setIfInBounds_ne (by omega)]
      exact HTL.out m (by omega) h2⟩
     case measure=>simp [intOf];omega
   case neg =>
    have e:j=ds.length:=by omega
    have hlen:k=(zA key ds).length:=by
     have:=congrArg List.length HTK.out
     rw [e,List.take_length,zfj,List.length_take,show cs.toList.length=cap*2 from (Array.length_toList (xs:=cs)).trans HCS.out] at this
     omega
    have HLEN:=Hd hlen
    have hck:¬ cap=k:=by have:=HLEN.out;omega
    have HLC:Hid (cs.toList.length=cap*2):=(Array.length_toList (xs:=cs)).trans HCS.out
    have HG:Hid (((w.setB g (.cells cs 61)).ext Y).heap[g]?=some (.cells cs.toList.toArray 61 (0,0))):=by
     show _ = _
     rw [World.ext_get _ _ (by rw [zc];exact hgl),World.setB_at _ _ _ hgl,Array.toArray_toList]
    have hcl:∀ ty,(Builtin.clear_ #[24] ty #[.slice (some ⟨g,k*2,none⟩) (ds.length - k) (cap - k)]).run Tryz.prog ((w.setB g (.cells cs 61)).ext Y)=.ok (.tuple #[]) ((w.setB g (.cells (splice cs.toList (k*2) (Builtin.zeroCells (Value.agg #[.string ⟨#[]⟩,.string ⟨#[]⟩]).cells (ds.length - k)).toList).toArray 61)).ext Y):=fun ty=>by
     have:=zjA (P:=Tryz.prog) (w:=(w.setB g (.cells cs 61)).ext Y) (t:=24) (e:=61) (.agg #[.string ⟨#[]⟩,.string ⟨#[]⟩]) Tryz.underlying24 (by kernel_rfl) (by decide) ty g (k*2) (ds.length - k) (cap - k) (by omega) cs.toList 61 HG.out (by rw [HLC.out];show k*2+(ds.length - k)*2<=_;omega)
     rw [this]
     congr 1
     rw [zan _ _ _ _ (by rw [zc];exact hgl),zaT]
    obtain ⟨L,hL⟩ : ∃ L,L=splice cs.toList (k*2) (Builtin.zeroCells (Value.agg #[.string ⟨#[]⟩,.string ⟨#[]⟩]).cells (ds.length - k)).toList:=⟨_,rfl⟩
    rw [<- hL] at hcl
    have HL:Hid (L.length=cap*2/\L.take (k*2)=(zA key ds).flatMap CellD.row):=by
     rw [hL]
     refine ⟨?_,?_⟩
     ·rw [length_splice _ _ _ (by rw [show (Builtin.zeroCells (Value.agg #[.string ⟨#[]⟩,.string ⟨#[]⟩]).cells (ds.length - k)).toList.length=(ds.length - k)*2 by simp [Builtin.zeroCells,Value.cells],HLC.out];omega),HLC.out]
     ·rw [zfw _ _ _ _ (Nat.le_refl _) (by rw [HLC.out];omega),HTK.out,e,List.take_length]
    clear hL hlen
    go_wp2
    go_ret
    have hlen:=HLEN.out
    refine ⟨_,rfl,?_,rfl,?_⟩
    ·show OwnL zu 61 _ B (.slice (some ⟨g,0,none⟩) k cap) _
     rw [hlen]
     refine OwnL.ext ?_ _
     refine ⟨zu.flat_len _,.inr ⟨g,cap,L.toArray,rfl,hg,World.setB_at _ _ _ hgl,by rw [<- hlen];omega,by unfold maxLen;omega,by show L.toArray.size=cap*2;simpa using HL.out.1,by rw [<- hlen];show L.toArray.toList.take (k*2) = _;exact HL.out.2⟩⟩
    ·exact Upon.setBExt _ _ _ (by simp [Value.ownBlock])
end Go.Proofs.YtpbcehcmdoncmaaGreatDoor
namespace Go
section
variable {P:Program}
theorem run_appF {w:World} {t ty e:TypeId} {size bytes:Nat} (E:Elem P t e size bytes) {base:Nat} {v:Value} {n:Nat} {xs:List Value} (hown:w.ownsRow base e size v n xs)
  {x:Value} {m:Nat} {news:List Value} (hx:Sl w x m news) (hl:news.length=m*size) (h1:∀ u ∈ news,u.oneCell'=true) (hb:(n+m)*bytes<=140737488355328) (h63:n+m<=maxLen) (hbase:base<=w.heap.size) :
  ∃ v' w',(Builtin.append_ #[t,t] ty #[v,x]).run P w=.ok v' w'/\w'.ownsRow base e size v' (n+m) (xs++news)/\w.grownBy w' v.ownBlock/\(v'=.slice none 0 0 ↔ v=.slice none 0 0/\m=0)/\(v'.ownBlock=v.ownBlock ∨ v'.ownBlock=some w.heap.size):=by
 obtain ⟨v',w',hr,h2,h3,h4⟩:=zki (P:=P) (ty:=ty) E hown hx hl h1 hb h63 hbase
 refine ⟨v',w',hr,h2,h3,h4,?_⟩
 have same:∀ {u:Value} {w'':World},(Builtin.append_ #[t,t] ty #[v,x]).run P w=.ok u w''->v'=u:=fun h=>by
  rw [hr] at h
  injection h
 obtain ⟨i,z,hi,hz,hs,hby,hzs⟩:=E.hi
 subst hs
 subst hby
 have hsm:n+m<=9223372036854775807:=by simp only [maxLen] at h63;omega
 rcases hx with ⟨rfl,rfl,rfl⟩|⟨b,off,cap,rfl,_,_,hc⟩
 ·rw [same (run_append_owned_none w base t ty e i i.size E.ht hi v n xs hown)]
  exact .inl rfl
 ·have hnews:∀ j u,news[j]?=some u->w.cell? ((⟨b,off,none⟩ : Addr).add j)=some u:=fun j u hj=>by rw [zdf];exact hc j u hj
  rcases hown.2 with ⟨rfl,rfl⟩|⟨g,gcap,cur,rfl,hbg,hg,hnc,hcm,hcs,htake⟩
  ·by_cases hm:m=0
   ·rw [h4.2 ⟨rfl,hm⟩]
    exact .inl rfl
   ·rw [same (run_append_nil (P:=P) w t ty e i z E.ht hi hz ⟨b,off,none⟩ m cap news hl hnews (by omega) (by omega) (by have hb:=hb;simp only [Nat.zero_add] at hb;omega))]
    exact .inr rfl
  ·by_cases hroom:n+m<=gcap
   ·have hfit:n*i.size+news.length<=cur.size:=by rw [hl,hcs,<- Nat.add_mul];exact Nat.mul_le_mul_right _ hroom
    rw [same (run_append_room (P:=P) w t ty e i E.ht hi g n gcap cur hg ⟨b,off,none⟩ m cap news hl hnews h1 hroom hfit)]
    exact .inl rfl
   ·have holds:∀ j u,xs[j]?=some u->w.cell? ((⟨g,0,none⟩ : Addr).add j)=some u:=hown.cells (g:=g) rfl
    rw [same (run_append_grow (P:=P) w t ty e i z E.ht hi hz ⟨g,0,none⟩ n gcap xs hown.1 holds ⟨b,off,none⟩ m cap news hl hnews (by omega) (by omega) (growslice_fits (by omega) hb))]
    exact .inr rfl
theorem zaA {α : Type} {R:RowOf α} {w:World} {ops:Array Oper} {rest:List Oper} {o:Oper} {a:Act} {Q:Exit->Act->World->Prop} (hgd:o.guard=none) (s x:Operand) (t:TypeId)
  (ho:o.op=.call { callee:=.builtin .append,args:=#[s,x],argTypes:=#[t,t] })
  {e:TypeId} {bytes:Nat} (E:Elem P t e R.k bytes) {B:Nat} {v:Value} {xs:List α} (hown:OwnL R e w B v xs) (hs:a.eval s=v)
  {vx:Value} {ys:List α} (hx:RdL R w vx ys) (hvx:a.eval x=vx) (hb:(xs.length+ys.length)*bytes<=140737488355328) (h63:xs.length+ys.length<=maxLen) (hbase:B<=w.heap.size)
  (h:∀ v' w',OwnL R e w' B v' (xs++ys)->w.grownBy w' v.ownBlock->(v'.ownBlock=v.ownBlock ∨ v'.ownBlock=some w.heap.size)->wpList P ops Q rest (a.put o.dst v') w'):wpList P ops Q (o :: rest) a w:=by
 refine wpList_plain hgd fun K hK=>?_
 obtain ⟨v',w',hr,h2,h3,h4,h5⟩:=run_appF (P:=P) (ty:=o.type) E hown hx (R.flat_len ys) (R.flat_one ys) hb h63 hbase
 unfold Oper.wp execOp
 simp only [ho,resolve,invoke,builtin,Sem.run_bind,Sem.run_pure,Result.andThen_ok,List.map_toArray,List.map_cons,List.map_nil,hs,hvx,hr]
 refine hK _ _ (h v' w' ?_ h3 h5)
 unfold OwnL
 rw [List.length_append,List.flatMap_append]
 exact h2
def Off {α : Type} (xs:List α) (v o:Value):Prop:=xs = [] ∨ ∀ k,o.ownBlock=some k->v.ownBlock ≠ some k
theorem RdL.keptO {α : Type} {R:RowOf α} {w w':World} {v o:Value} {xs:List α} (h:RdL R w v xs) (hd:Off xs v o) (hg:w.grownBy w' o.ownBlock):RdL R w' v xs:=by
 rcases hd with rfl|hd
 ·rcases h with h|⟨b,off,cap,rfl,h1,h2,h3⟩
  ·exact .inl h
  ·exact .inr ⟨b,off,cap,rfl,h1,h2,fun j u hj=>by simp at hj⟩
 ·refine h.kept hg ?_
  cases hv:v.ownBlock with
  | none=>exact .inl rfl
  | some k =>
   right
   intro he
   exact hd k he.symm hv
theorem Off.next {α : Type} {R:RowOf α} {w:World} {v o o':Value} {xs:List α} (hk : 0<R.k) (hd:Off xs v o) (h:RdL R w v xs) (ho:o'.ownBlock=o.ownBlock ∨ o'.ownBlock=some w.heap.size):Off xs v o':=by
 rcases hd with rfl|hd
 ·exact .inl rfl
 ·by_cases hx:xs = []
  ·exact .inl hx
  ·right
   intro k hk2 hv
   rcases ho with ho|ho
   ·exact hd k (ho ▸ hk2) hv
   ·rw [ho] at hk2
    cases hk2
    obtain ⟨ao,cap,rfl,_,_,_,h4⟩:=h.shape
    obtain ⟨b,off,rfl,hb,_⟩:=h4 hx
    have:=hb hk
    have e:b=w.heap.size:=by simpa [Value.ownBlock] using hv
    omega
theorem Off.fresh {α : Type} {R:RowOf α} {w:World} {v o:Value} {xs:List α} (hk : 0<R.k) (h:RdL R w v xs) (ho:∀ k,o.ownBlock=some k->w.heap.size<=k):Off xs v o:=by
 by_cases hx:xs = []
 ·exact .inl hx
 ·right
  intro k hk2 hv
  obtain ⟨ao,cap,rfl,_,_,_,h4⟩:=h.shape
  obtain ⟨b,off,rfl,hb,_⟩:=h4 hx
  have h5:=hb hk
  have h6:=ho k hk2
  have e:b=k:=by simpa [Value.ownBlock] using hv
  omega
theorem Off.later {α : Type} {R:RowOf α} {e:TypeId} {w':World} {B:Nat} {v o:Value} {xs:List α} (h:OwnL R e w' B v xs) (ho:∀ k,o.ownBlock=some k->k<B):Off xs v o:=by
 right
 intro k hk2 hv
 have h1:=(h.lt k hv).1
 have h2:=ho k hk2
 omega
end
end Go
