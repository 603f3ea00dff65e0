/- Part 39. -/
import Derived.Test.YtdpaejbaoefdjaaGreatDoorQ38
namespace Go.Proofs.YtdpaejbaoefdjaaGreatDoor
open Go.Proofs.Tryz
set_option maxRecDepth 100000
set_option maxHeartbeats 64000000
set_option linter.unusedVariables false
set_option linter.unusedSimpArgs false
section
open Go.RowKit Go.Shelf Go.MapKept Go.ChangeMaps
section
variable{w0 w:World}{A:MA}{m:cS}{N:Nat}
theorem uq(h:cU w0 w A m)(r:Int):
  Calls prog 23 #[.p A.mb,.i r] w fun e w'=>e=.returned (.tuple #[.v ((if (qL m.toks r).held then (qL m.toks r).ep else 0:Nat):Int),.bool (qL m.toks r).held])∧cF w w':=by
 have c3:=h.cells.2.2.2.1;have HC:=cE (BP w A.kb A.lo m.toks h.tok r);generalize qL m.toks r=t at HC⊢;generalize (if t.held=true then t.ep else 0)=x at HC⊢;generalize t.held=hd at HC⊢;clear h;go_enter func23,ntmps23
 go_wp2_with fail
 refine HC.out.mono ?_;rintro e w2 ⟨rfl,h1⟩;have H1:=cE h1;clear h1;go_wp2
 go_ret2
 exact⟨rfl,H1.out⟩
theorem qj(h:cU w0 w A m)(r:Nat)(hr:r<m.trees.length)(hl:m.trees.length≤1000):
  Calls prog 19 #[.p A.mb,.i r] w fun e w'=>∃b,e=.returned (.p b)∧TR w0 w' b (m.root r) (m.at_ r) (m.nodes r)∧w.heap.size≤b∧cF w w':=by
 have c2:=h.cells.2.2.1;obtain⟨tb,htb⟩:∃tb,A.tb[r]?=some tb:=⟨_,List.getElem?_eq_getElem (by rw[h.tl];exact hr)⟩;obtain⟨g,off,e1,_,e3,e4⟩:=h.data.row r tb htb;have HC:=cE (h.tr r tb htb).1.clone;rw[e1] at c2;have t1:decide ((r:Int)<0)=false:=by simp
 have t2:decide ((m.trees.length:Int)≤(r:Int))=false:=by simp;omega
 obtain⟨n,hn⟩:=cG m.trees.length;rw[←hn] at c2 t2 hr hl;clear h hn e1;go_enter func19,ntmps19
 go_wp2_with fail
 refine HC.out.mono ?_;rintro e w2 ⟨b,rfl,h1,h2,h3⟩;have H1:=cE (cD h1 (cD h2 h3));clear h1 h2 h3;go_wp2
 go_ret
 exact⟨b,rfl,H1.out.1,H1.out.2.1,H1.out.2.2⟩
end
end
