/- A pair, plain: what its acts do. -/
import Derived.Test.YtiaiifcgbjlfoaaGreatDoorVmQ
import Derived.Test.YtiaiifcgbjlfoaaGreatDoorGateP
import Derived.Test.YtiaiifcgbjlfoaaGreatDoorStrs
set_option linter.all false
namespace Go.Proofs.YtiaiifcgbjlfoaaGreatDoor
open Go Go.Abs
def textV (x:Emit):ByteArray:=itoaB x.port++⟨#[32]⟩++itoaB x.n
def v0:Vm:=⟨0,List.replicate 8 0,false,false⟩
def nd0:Node:=⟨0,v0,0,[],0⟩
def stillN (n:Node):Node:=⟨0,n.vm,n.read,n.outs,0⟩
def getN (p:Pair) (w:Int):Node:=p.nodes.getD w.toNat Dat.d0
def putN (p:Pair) (w:Int) (n:Node):Pair:=⟨p.log,p.fence,p.nodes.set w.toNat n,p.saved,p.gate⟩
def claimA (p:Pair) (a:PairAct):Pair×Int:=
 if¬(claimS p.fence a.who a.n).2.2=0 then(p,(claimS p.fence a.who a.n).2.2)else
 if(claimS p.fence a.who a.n).2.1=false then(⟨p.log,(claimS p.fence a.who a.n).1,p.nodes,p.saved,p.gate⟩,9)else
 if(claimG p.gate a.who a.n).2.1=false then(⟨p.log,(claimS p.fence a.who a.n).1,p.nodes,p.saved,(claimG p.gate a.who a.n).1⟩,9)else
 (⟨p.log,(claimS p.fence a.who a.n).1,p.nodes.set a.who.toNat ⟨a.n,(getN p a.who).vm,(getN p a.who).read,(getN p a.who).outs,0⟩,p.saved,(claimG p.gate a.who a.n).1⟩,0)
def inA (p:Pair) (x:Node):List Int:=(p.log.drop x.read.toNat).take 1
def wrkA (code:List Ins) (p:Pair) (x:Node):Vm×List Emit×Int×Int×Int:=runV code x.vm (inA p x) 50
def workA (code:List Ins) (p:Pair) (a:PairAct):Pair×Int:=
 if(getN p a.who).epoch=0 then(p,9)else
 if(passS p.fence a.who (getN p a.who).epoch).1=false then(putN p a.who ⟨0,(getN p a.who).vm,(getN p a.who).read,(getN p a.who).outs,(getN p a.who).sent⟩,9)else
 if¬(wrkA code p (getN p a.who)).2.2.2.2=0 then(p,(wrkA code p (getN p a.who)).2.2.2.2)else
 (putN p a.who ⟨(getN p a.who).epoch,(wrkA code p (getN p a.who)).1,(getN p a.who).read+(wrkA code p (getN p a.who)).2.2.1,(getN p a.who).outs++(wrkA code p (getN p a.who)).2.1,(getN p a.who).sent⟩,0)
def giveA (p:Pair) (a:PairAct):Give:=⟨a.who,(getN p a.who).epoch,(getN p a.who).sent,textV ((getN p a.who).outs.getD (getN p a.who).sent.toNat Dat.d0)⟩
def sendA (p:Pair) (a:PairAct):Pair×Int:=
 if(getN p a.who).epoch=0 then(p,9)else
 if(getN p a.who).sent=(getN p a.who).outs.length then(p,7)else
 if¬(handG p.gate (giveA p a)).2.2=0 then(if(handG p.gate (giveA p a)).2.2=9 then putN p a.who ⟨0,(getN p a.who).vm,(getN p a.who).read,(getN p a.who).outs,(getN p a.who).sent⟩else p,(handG p.gate (giveA p a)).2.2)else
 (⟨p.log,p.fence,p.nodes.set a.who.toNat ⟨(getN p a.who).epoch,(getN p a.who).vm,(getN p a.who).read,(getN p a.who).outs,(getN p a.who).sent+1⟩,p.saved,(handG p.gate (giveA p a)).1⟩,0)
def loadA (p:Pair) (a:PairAct):Pair×Int:=
 if¬(getN p a.who).epoch=0 then(p,9)else if a.n<0∨p.saved.length≤a.n then(p,7)else
 (putN p a.who (stillN (p.saved.getD a.n.toNat Dat.d0)),0)
def inpA (p:Pair) (a:PairAct):Pair×Int:=if numB a.n=true then(⟨p.log++[a.n],p.fence,p.nodes,p.saved,p.gate⟩,0)else(p,4)
def actA (code:List Ins) (p:Pair) (a:PairAct):Pair×Int:=
 if a.kind=1 then inpA p a else
 if a.kind<1∨7<a.kind then(p,1)else
 if a.who<0∨p.nodes.length≤a.who then(p,7)else
 if a.kind=2 then claimA p a else if a.kind=3 then workA code p a else if a.kind=4 then sendA p a else if a.kind=6 then loadA p a else
 if a.kind=5 then(⟨p.log,p.fence,p.nodes,p.saved++[stillN (getN p a.who)],p.gate⟩,0)else(putN p a.who nd0,0)
def runA (code:List Ins) (p:Pair):List PairAct→Pair
 |[]=>p
 |a::r=>runA code (actA code p a).1 r
def ansA (code:List Ins) (p:Pair):List PairAct→List Int
 |[]=>[]
 |a::r=>(actA code p a).2::ansA code (actA code p a).1 r
def zP:Pair:=⟨[],⟨0,0⟩,[],[],⟨⟨0,0⟩,[]⟩⟩
def p0 (n:Int):Pair:=⟨[],⟨0,0⟩,List.replicate n.toNat nd0,[],⟨⟨0,0⟩,[]⟩⟩
def playA (code:List Ins) (n:Int) (l:List PairAct):Pair×List Int×Int:=
 if¬checkP code=0 then(zP,[],checkP code)else if n<1∨4<n then(zP,[],1)else if 100<l.length then(zP,[],2)else(runA code (p0 n) l,ansA code (p0 n) l,0)
end Go.Proofs.YtiaiifcgbjlfoaaGreatDoor
