/-
  The small code of the functions, printed by program; each is what 'compFn' makes of the function.
-/
import Derived.Test.YtigbjjkijfkeeaaChecked
import Derived.Test.YtigbjjkijfkeeaaOW00
import Derived.KernelRfl
set_option maxRecDepth 100000
set_option maxHeartbeats 4000000
set_option linter.unusedSimpArgs false
set_option linter.unusedVariables false
namespace Go.Proofs.Ytigbjjkijfkeeaa.Ir
open Go Go.Vi
def bodyF:Option IFn→IR
 |some F=>F.body
 |none=> .skip
noncomputable def h14:List RH:=[⟨0,[2,3],[],[],[],[]⟩,⟨1,[2,3,25],[],[],[],[]⟩,⟨2,[4],[],[],[],[]⟩,⟨3,[2,3,5],[],[],[⟨false,2,(some 18),0,0,false⟩,⟨false,2,(some 19),0,0,false⟩,⟨false,3,(some 0),0,0,false⟩],[]⟩,⟨4,[2,3,5,6],[],[],[],[]⟩,⟨5,[2,3,5,6,7,8],[],[],[⟨false,2,(some 18),0,0,false⟩,⟨false,2,(some 19),0,0,false⟩,⟨false,3,(some 0),0,0,false⟩],[]⟩,⟨6,[2,3,5,6,7,50],[],[],[],[]⟩,⟨7,[4],[],[],[],[]⟩,⟨8,[2,3,5,6,9],[],[],[],[]⟩,⟨9,[4],[],[],[],[]⟩]
noncomputable def F14:IFn:=⟨2,78,(bodyF (compFn Try.prog h14 Try.f14)),[⟨4,none⟩]⟩
theorem is14:compFn Try.prog h14 Try.f14=some F14:=by kernel_rfl
noncomputable def h24:List RH:=[⟨0,[1],[],[],[],[]⟩,⟨1,[1,11],[],[],[],[]⟩,⟨2,[2],[],[],[],[]⟩,⟨3,[1,3],[],[],[],[]⟩,⟨4,[1,3,13],[],[],[],[]⟩,⟨6,[1,3,63],[],[],[],[]⟩,⟨7,[2],[],[],[],[]⟩,⟨5,[1,3],[],[],[],[]⟩,⟨8,[1,73],[],[],[],[]⟩,⟨9,[2],[],[],[],[]⟩,⟨10,[1,4],[],[],[],[]⟩,⟨11,[1,4,78],[],[],[],[]⟩,⟨13,[1,4,94],[],[],[],[]⟩,⟨14,[2],[],[],[],[]⟩,⟨12,[1,4],[],[],[],[]⟩,⟨15,[1,5],[],[],[],[]⟩,⟨16,[1,5,99],[],[],[],[]⟩,⟨18,[1,5,6],[],[],[],[]⟩,⟨19,[1,5,6,117],[],[],[],[]⟩,⟨20,[2],[],[],[],[]⟩,⟨21,[1,5,6,137],[],[],[],[]⟩,⟨22,[2],[],[],[],[]⟩,⟨23,[1,5,6,142],[],[2],[],[]⟩,⟨24,[2],[],[],[],[]⟩,⟨25,[1,5,6,7],[],[],[],[]⟩,⟨26,[1,5,6,7,145],[],[],[],[]⟩,⟨28,[1,5,6,7,167],[],[],[],[]⟩,⟨29,[2],[],[],[],[]⟩,⟨27,[1,5,6,7],[],[],[],[]⟩,⟨17,[1,5],[],[],[],[]⟩,⟨30,[2],[],[],[],[]⟩]
noncomputable def F24:IFn:=⟨1,168,(bodyF (compFn Try.prog h24 Try.f24)),[⟨2,none⟩]⟩
theorem is24:compFn Try.prog h24 Try.f24=some F24:=by kernel_rfl
noncomputable def h38:List RH:=[⟨0,[1],[],[],[],[]⟩,⟨1,[2],[],[],[],[]⟩]
noncomputable def F38:IFn:=⟨1,13,(bodyF (compFn Try.prog h38 Try.f38)),[⟨2,none⟩]⟩
theorem is38:compFn Try.prog h38 Try.f38=some F38:=by kernel_rfl
noncomputable def h39:List RH:=[⟨0,[],[],[],[],[]⟩,⟨1,[1,2],[],[],[],[]⟩,⟨2,[1,2,3,4],[],[],[⟨false,1,(some 18),0,0,false⟩,⟨false,1,(some 19),0,0,false⟩,⟨false,2,(some 0),0,0,false⟩],[]⟩,⟨3,[1,2,3,4,5,6,7],[],[2],[⟨false,1,(some 18),0,0,false⟩,⟨false,1,(some 19),0,0,false⟩,⟨false,2,(some 0),0,0,false⟩],[]⟩,⟨4,[0],[],[7,27,35,43,51,58],[],[]⟩]
noncomputable def F39:IFn:=⟨0,90,(bodyF (compFn Try.prog h39 Try.f39)),[⟨0,none⟩]⟩
theorem is39:compFn Try.prog h39 Try.f39=some F39:=by kernel_rfl
noncomputable def h40:List RH:=[⟨0,[2,3],[],[],[],[]⟩,⟨1,[6,7,8],[],[],[⟨false,2,(some 18),0,0,false⟩,⟨false,2,(some 19),0,0,false⟩,⟨false,3,(some 0),0,0,false⟩],[]⟩,⟨2,[6,7,8,22],[],[],[],[]⟩,⟨3,[4,5],[],[],[],[]⟩,⟨4,[6,7,9],[],[2],[],[]⟩,⟨5,[9,29],[],[2],[],[]⟩,⟨6,[9,10],[],[],[],[]⟩,⟨7,[],[],[],[],[]⟩,⟨8,[9,11],[],[],[],[⟨true,11,none,83,2,true⟩]⟩,⟨9,[11,46,47,48],[],[],[],[]⟩,⟨10,[11,46,47,48,49],[],[],[],[]⟩,⟨11,[11,12,13,46,47,48],[],[],[],[]⟩,⟨12,[11,12,13,46,47,48,54],[],[],[],[]⟩,⟨13,[11,46,47,48],[],[4,5],[],[]⟩,⟨14,[11,46,47,48],[],[],[],[]⟩,⟨15,[4,5],[],[],[],[]⟩]
noncomputable def F40:IFn:=⟨2,63,(bodyF (compFn Try.prog h40 Try.f40)),[⟨4,none⟩,⟨5,none⟩]⟩
theorem is40:compFn Try.prog h40 Try.f40=some F40:=by kernel_rfl
noncomputable def h42:List RH:=[⟨0,[0,1],[],[],[],[]⟩,⟨1,[0,1,10],[],[],[],[]⟩,⟨2,[4],[],[],[],[]⟩,⟨3,[0,1,12,13],[],[],[],[]⟩,⟨4,[0,1,12,13,14],[],[],[],[]⟩,⟨5,[0,1,5,12,13],[],[],[],[]⟩,⟨6,[0,1,12,13,24],[],[],[],[]⟩,⟨7,[4],[],[],[],[]⟩,⟨8,[0,1,12,13],[],[],[],[]⟩,⟨9,[4],[],[],[],[]⟩]
noncomputable def F42:IFn:=⟨2,26,(bodyF (compFn Try.prog h42 Try.f42)),[⟨4,none⟩]⟩
theorem is42:compFn Try.prog h42 Try.f42=some F42:=by kernel_rfl
noncomputable def h44:List RH:=[⟨0,[3,4,5,6,7],[],[],[],[]⟩,⟨1,[5,6,7,9,10,11],[],[],[⟨false,3,(some 18),0,0,false⟩,⟨false,3,(some 19),0,0,false⟩,⟨false,4,(some 0),0,0,false⟩],[]⟩,⟨2,[5,6,7,9,10,11,23],[],[],[],[]⟩,⟨3,[6,7,8],[],[],[],[]⟩,⟨4,[5,6,7,9,10,29],[],[],[],[]⟩,⟨5,[6,7,8],[],[],[],[]⟩,⟨6,[5,6,7,9,10,12],[],[],[],[]⟩,⟨7,[5,6,7,9,10,12,13],[],[],[],[]⟩,⟨8,[5,6,7,12,13,40],[],[2],[],[]⟩,⟨9,[5,12,13,14],[],[],[],[]⟩,⟨10,[12,13,14,15],[],[],[⟨false,5,(some 0),0,0,false⟩],[]⟩,⟨11,[12,13,14,15,55],[],[],[],[]⟩,⟨12,[],[],[],[],[]⟩,⟨13,[6,7,8],[],[],[],[]⟩]
noncomputable def F44:IFn:=⟨3,61,(bodyF (compFn Try.prog h44 Try.f44)),[⟨6,(some (some 2))⟩,⟨7,(some (some 3))⟩,⟨8,none⟩]⟩
theorem is44:compFn Try.prog h44 Try.f44=some F44:=by kernel_rfl
noncomputable def h46:List RH:=[⟨0,[2,3],[],[],[],[]⟩,⟨1,[2,3,29],[],[],[],[]⟩,⟨2,[4],[],[],[],[]⟩,⟨3,[2,3,5],[],[],[],[]⟩,⟨4,[2,3,5,34],[],[],[],[]⟩,⟨6,[2,3,5,47],[],[],[],[]⟩,⟨7,[4],[],[],[],[]⟩,⟨5,[2,3,5],[],[],[],[]⟩,⟨8,[2,3,6],[],[],[],[]⟩,⟨9,[2,3,6,52],[],[],[],[]⟩,⟨11,[2,3,6,65],[],[],[],[]⟩,⟨12,[4],[],[],[],[]⟩,⟨10,[2,3,6],[],[],[],[]⟩,⟨13,[4],[],[],[],[]⟩]
noncomputable def F46:IFn:=⟨2,66,(bodyF (compFn Try.prog h46 Try.f46)),[⟨4,none⟩]⟩
theorem is46:compFn Try.prog h46 Try.f46=some F46:=by kernel_rfl
noncomputable def h47:List RH:=[⟨0,[2,3,4],[],[],[],[]⟩,⟨1,[2,3,4,7,8,9],[],[],[⟨false,3,(some 18),0,0,false⟩,⟨false,3,(some 19),0,0,false⟩,⟨false,4,(some 0),0,0,false⟩,⟨false,2,none,0,0,false⟩],[]⟩,⟨2,[2,3,4,7,8,9,18],[],[],[],[]⟩,⟨3,[6],[],[],[],[]⟩,⟨4,[7,8,22],[],[],[],[]⟩,⟨5,[6],[],[],[],[]⟩,⟨6,[28],[],[],[],[]⟩,⟨7,[6],[],[],[],[]⟩,⟨8,[6],[],[],[],[]⟩]
noncomputable def F47:IFn:=⟨3,37,(bodyF (compFn Try.prog h47 Try.f47)),[⟨6,none⟩]⟩
theorem is47:compFn Try.prog h47 Try.f47=some F47:=by kernel_rfl
noncomputable def h49:List RH:=[⟨0,[2,3,4],[],[],[],[]⟩,⟨1,[2,3,4,14],[],[],[],[]⟩,⟨2,[6],[],[],[],[]⟩,⟨3,[2,7],[],[],[⟨false,3,(some 18),0,0,false⟩,⟨false,3,(some 19),0,0,false⟩,⟨false,4,(some 0),0,0,false⟩],[]⟩,⟨4,[2,7,22],[],[],[],[]⟩,⟨5,[6],[],[],[],[]⟩,⟨6,[7,23,24,25],[],[],[],[]⟩,⟨7,[7,23,24,25,26],[],[],[],[]⟩,⟨8,[7,8,9,23,24,25],[],[],[],[]⟩,⟨9,[7,23,24,25,42],[],[],[],[]⟩,⟨10,[6],[],[],[],[]⟩,⟨11,[7,23,24,25],[],[],[],[]⟩,⟨12,[6],[],[],[],[]⟩]
noncomputable def F49:IFn:=⟨3,44,(bodyF (compFn Try.prog h49 Try.f49)),[⟨6,none⟩]⟩
theorem is49:compFn Try.prog h49 Try.f49=some F49:=by kernel_rfl
noncomputable def h51:List RH:=[⟨0,[0,2],[],[],[],[]⟩,⟨1,[2,3],[],[],[⟨false,0,none,0,0,false⟩],[]⟩,⟨2,[2],[],[],[],[]⟩]
noncomputable def F51:IFn:=⟨1,11,(bodyF (compFn Try.prog h51 Try.f51)),[⟨2,(some (some 3))⟩]⟩
theorem is51:compFn Try.prog h51 Try.f51=some F51:=by kernel_rfl
noncomputable def h54:List RH:=[⟨0,[1,2],[],[],[],[]⟩,⟨1,[1,2,5],[],[],[],[]⟩,⟨2,[1,2,5,14,15],[],[],[],[]⟩,⟨3,[1,2,5,14,15,16],[],[],[],[]⟩,⟨4,[1,2,5,6,14,15],[],[],[],[]⟩,⟨5,[1,2,5,6,7,14,15],[],[],[],[⟨true,7,none,3,1,true⟩]⟩,⟨6,[1,2,5,6,7,14,15,19,20,21],[],[],[],[]⟩,⟨7,[1,2,5,6,7,14,15,19,20,21,22],[],[],[],[]⟩,⟨8,[1,2,5,6,7,8,9,14,15,19,20,21],[],[],[],[]⟩,⟨9,[1,2,5,6,7,8,14,15,19,20,21,38],[],[],[],[]⟩,⟨10,[1,2,5,6,7,14,15,19,20,21],[],[2,3],[],[]⟩,⟨11,[1,2,5,6,7,14,15,19,20,21],[],[],[],[]⟩,⟨12,[1,2,5,7,10,14,15],[],[],[],[]⟩,⟨13,[1,2,5,10,14,15,55],[],[],[],[]⟩,⟨14,[1,2,5,14,15],[],[],[],[]⟩,⟨15,[1,2,5,14,15],[],[],[],[]⟩,⟨16,[4],[],[],[],[]⟩]
noncomputable def F54:IFn:=⟨2,59,(bodyF (compFn Try.prog h54 Try.f54)),[⟨4,none⟩]⟩
theorem is54:compFn Try.prog h54 Try.f54=some F54:=by kernel_rfl
noncomputable def h55:List RH:=[⟨0,[1,2],[],[],[],[]⟩,⟨1,[1,2,5],[],[],[],[]⟩,⟨2,[1,2,5,11],[],[],[],[]⟩,⟨3,[4],[],[],[],[]⟩,⟨4,[2,6,7],[],[],[⟨false,2,(some 18),0,0,false⟩,⟨false,2,(some 19),0,0,false⟩,⟨false,1,none,0,0,false⟩],[]⟩,⟨5,[2,6,20],[],[],[],[]⟩,⟨6,[4],[],[],[],[]⟩,⟨7,[24],[],[],[],[]⟩,⟨8,[4],[],[],[],[]⟩,⟨9,[4],[],[],[],[]⟩]
noncomputable def F55:IFn:=⟨2,25,(bodyF (compFn Try.prog h55 Try.f55)),[⟨4,none⟩]⟩
theorem is55:compFn Try.prog h55 Try.f55=some F55:=by kernel_rfl
noncomputable def h56:List RH:=[⟨0,[0],[],[],[],[]⟩,⟨1,[0,3],[],[],[],[⟨true,3,none,66,3,false⟩]⟩,⟨2,[3,6,7,8],[],[],[],[]⟩,⟨3,[3,6,7,8,9],[],[],[],[]⟩,⟨4,[3,5,6,7,8],[],[],[],[]⟩,⟨5,[3,6,7,8],[],[3,4],[⟨false,5,none,0,0,false⟩],[]⟩,⟨6,[3,6,7,8],[],[],[],[]⟩,⟨7,[2],[],[],[],[]⟩]
noncomputable def F56:IFn:=⟨1,19,(bodyF (compFn Try.prog h56 Try.f56)),[⟨2,none⟩]⟩
theorem is56:compFn Try.prog h56 Try.f56=some F56:=by kernel_rfl
noncomputable def h57:List RH:=[⟨0,[2,3],[],[],[],[]⟩,⟨1,[2,3,5],[],[3],[],[]⟩,⟨2,[2,3,5,6],[],[],[],[]⟩,⟨3,[2,3,5,6,16],[],[],[],[]⟩,⟨5,[2,3,5,6,7],[],[],[],[]⟩,⟨6,[2,3,5,6],[],[],[],[]⟩,⟨4,[2,3,5,6],[],[],[],[]⟩,⟨7,[4],[],[],[],[]⟩]
noncomputable def F57:IFn:=⟨2,35,(bodyF (compFn Try.prog h57 Try.f57)),[⟨4,none⟩]⟩
theorem is57:compFn Try.prog h57 Try.f57=some F57:=by kernel_rfl
noncomputable def h58:List RH:=[⟨0,[1,2],[],[],[],[]⟩,⟨1,[1,2,11],[],[],[],[]⟩,⟨2,[4],[],[],[],[]⟩,⟨3,[5],[],[],[⟨false,2,(some 18),0,0,false⟩,⟨false,2,(some 19),0,0,false⟩,⟨false,1,none,0,0,false⟩],[]⟩,⟨4,[5,7],[],[],[],[]⟩,⟨5,[5,7,8],[],[],[],[]⟩,⟨6,[5,7,8,21],[],[],[],[]⟩,⟨8,[5,7,8],[],[],[],[]⟩,⟨7,[5,7,8],[],[],[],[]⟩,⟨9,[4],[],[],[],[]⟩]
noncomputable def F58:IFn:=⟨2,32,(bodyF (compFn Try.prog h58 Try.f58)),[⟨4,none⟩]⟩
theorem is58:compFn Try.prog h58 Try.f58=some F58:=by kernel_rfl
noncomputable def h68:List RH:=[⟨0,[1],[],[],[],[]⟩,⟨1,[1,3],[],[],[],[]⟩,⟨2,[1,3,5],[],[],[],[]⟩,⟨4,[1,3,17],[],[],[],[]⟩,⟨5,[2],[],[],[],[]⟩,⟨3,[1,3],[],[],[],[]⟩,⟨6,[2],[],[],[],[]⟩]
noncomputable def F68:IFn:=⟨1,18,(bodyF (compFn Try.prog h68 Try.f68)),[⟨2,none⟩]⟩
theorem is68:compFn Try.prog h68 Try.f68=some F68:=by kernel_rfl
noncomputable def h69:List RH:=[⟨0,[1,2],[],[],[],[]⟩,⟨1,[1,2,5],[],[],[],[]⟩,⟨2,[1,2,5,17],[],[],[],[]⟩,⟨4,[1,2,5,6],[],[],[],[]⟩,⟨5,[1,2,5,6,7],[],[],[],[]⟩,⟨6,[1,2,5,6,7,23],[],[],[],[]⟩,⟨8,[1,2,5,6,7,8],[],[],[],[]⟩,⟨9,[1,2,5,6,7],[],[],[],[]⟩,⟨7,[1,2,5,6,7],[],[],[],[]⟩,⟨10,[1,2,5,6,11],[],[],[],[]⟩,⟨11,[1,2,5,48],[],[],[],[]⟩,⟨12,[4],[],[],[],[]⟩,⟨3,[1,2,5],[],[],[],[]⟩,⟨13,[4],[],[],[],[]⟩]
noncomputable def F69:IFn:=⟨2,49,(bodyF (compFn Try.prog h69 Try.f69)),[⟨4,none⟩]⟩
theorem is69:compFn Try.prog h69 Try.f69=some F69:=by kernel_rfl
noncomputable def h79:List RH:=[⟨0,[1],[],[],[],[]⟩,⟨1,[1,3],[],[],[],[]⟩,⟨2,[1,3,4],[],[],[],[]⟩,⟨3,[1,3,4,15],[],[],[],[]⟩,⟨4,[2],[],[],[],[]⟩,⟨5,[1,3,5],[],[0],[],[]⟩,⟨6,[3,5,19,20,21],[],[],[],[]⟩,⟨7,[3,5,19,20,21,22],[],[],[],[]⟩,⟨8,[3,5,7,19,20,21],[],[],[],[]⟩,⟨9,[3,5,7,8,19,20,21],[],[],[],[]⟩,⟨10,[3,5,7,8,19,20,21,29],[],[],[],[]⟩,⟨11,[2],[],[],[],[]⟩,⟨12,[3,5,9,19,20,21],[],[],[],[]⟩,⟨13,[3,5,9,19,20,21,38],[],[],[],[]⟩,⟨14,[2],[],[],[],[]⟩,⟨15,[3,5,19,20,21],[],[],[],[]⟩,⟨16,[3,5,19,20,21],[],[],[],[]⟩,⟨17,[2],[],[],[],[]⟩]
noncomputable def F79:IFn:=⟨1,42,(bodyF (compFn Try.prog h79 Try.f79)),[⟨2,none⟩]⟩
theorem is79:compFn Try.prog h79 Try.f79=some F79:=by kernel_rfl
noncomputable def h86:List RH:=[⟨0,[0,1],[],[],[],[]⟩,⟨1,[0,1,2],[],[],[],[]⟩,⟨2,[0,1,3],[],[2,9],[],[]⟩,⟨3,[0,1],[],[1],[],[]⟩]
noncomputable def F86:IFn:=⟨0,19,(bodyF (compFn Try.prog h86 Try.f86)),[⟨0,(some (some 20))⟩,⟨1,(some (some 2))⟩]⟩
theorem is86:compFn Try.prog h86 Try.f86=some F86:=by kernel_rfl
noncomputable def h87:List RH:=[⟨0,[2,3],[],[],[],[]⟩,⟨1,[2,3,7],[],[],[],[]⟩,⟨2,[2,3,7,15],[],[],[],[]⟩,⟨3,[4,5,6],[],[],[],[]⟩,⟨4,[2,3,8,9],[],[],[⟨false,2,(some 18),0,0,false⟩,⟨false,2,(some 19),0,0,false⟩],[]⟩,⟨5,[2,3,8,9,23],[],[],[],[]⟩,⟨6,[4,5,6],[],[],[],[]⟩,⟨7,[4,5,6],[],[],[⟨false,2,(some 18),0,0,false⟩,⟨false,2,(some 19),0,0,false⟩,⟨false,3,(some 0),0,0,false⟩],[]⟩]
noncomputable def F87:IFn:=⟨2,29,(bodyF (compFn Try.prog h87 Try.f87)),[⟨4,none⟩,⟨5,none⟩,⟨6,none⟩]⟩
theorem is87:compFn Try.prog h87 Try.f87=some F87:=by kernel_rfl
noncomputable def h88:List RH:=[⟨0,[2,3],[],[],[],[]⟩,⟨1,[4],[],[],[],[]⟩]
noncomputable def F88:IFn:=⟨2,6,(bodyF (compFn Try.prog h88 Try.f88)),[⟨4,none⟩]⟩
theorem is88:compFn Try.prog h88 Try.f88=some F88:=by kernel_rfl
noncomputable def h94:List RH:=[⟨0,[0,2],[],[],[],[]⟩,⟨1,[2],[],[],[⟨false,0,none,0,0,false⟩],[]⟩]
noncomputable def F94:IFn:=⟨1,9,(bodyF (compFn Try.prog h94 Try.f94)),[⟨2,(some (some 3))⟩]⟩
theorem is94:compFn Try.prog h94 Try.f94=some F94:=by kernel_rfl
noncomputable def h95:List RH:=[⟨0,[2,3,4],[],[],[],[]⟩,⟨1,[4],[],[],[⟨false,3,(some 1),0,0,false⟩,⟨false,3,(some 2),0,0,false⟩,⟨false,2,(some 1),0,0,false⟩,⟨false,2,(some 2),0,0,false⟩],[]⟩]
noncomputable def F95:IFn:=⟨2,9,(bodyF (compFn Try.prog h95 Try.f95)),[⟨4,(some (some 3))⟩]⟩
theorem is95:compFn Try.prog h95 Try.f95=some F95:=by kernel_rfl
noncomputable def h96:List RH:=[⟨0,[0,1,4],[],[],[],[]⟩,⟨1,[0,1,4,5],[],[],[],[]⟩,⟨2,[1,4,5,9,10,11],[],[],[],[]⟩,⟨3,[1,4,5,9,10,11,12],[],[],[],[]⟩,⟨4,[1,4,5,6,7,9,10,11],[],[],[],[]⟩,⟨5,[1,4,5,7,9,10,11,20],[],[],[],[]⟩,⟨6,[1,4,5,9,10,11],[],[],[⟨false,5,(some 1),0,0,false⟩,⟨false,5,(some 2),0,0,false⟩,⟨false,7,(some 1),0,0,false⟩,⟨false,7,(some 2),0,0,false⟩],[]⟩,⟨7,[1,4,5,9,10,11],[],[],[],[]⟩,⟨8,[4],[],[],[],[]⟩]
noncomputable def F96:IFn:=⟨2,26,(bodyF (compFn Try.prog h96 Try.f96)),[⟨4,(some (some 3))⟩]⟩
theorem is96:compFn Try.prog h96 Try.f96=some F96:=by kernel_rfl
noncomputable def h97:List RH:=[⟨0,[2,3],[],[],[],[]⟩,⟨1,[2,3,11],[],[],[],[]⟩,⟨2,[13],[],[],[],[]⟩,⟨3,[4],[],[],[],[]⟩,⟨4,[4],[],[],[],[]⟩,⟨5,[2,5,6],[],[],[⟨false,2,(some 1),0,0,false⟩,⟨false,2,(some 2),0,0,false⟩,⟨false,3,(some 1),0,0,false⟩,⟨false,3,(some 2),0,0,false⟩],[]⟩,⟨6,[5,6,21],[],[],[],[]⟩,⟨7,[4],[],[],[],[]⟩,⟨8,[4],[],[],[],[]⟩]
noncomputable def F97:IFn:=⟨2,28,(bodyF (compFn Try.prog h97 Try.f97)),[⟨4,none⟩]⟩
theorem is97:compFn Try.prog h97 Try.f97=some F97:=by kernel_rfl
noncomputable def h99:List RH:=[⟨0,[1],[],[],[],[]⟩,⟨1,[1,3],[],[],[],[]⟩,⟨2,[2],[],[],[],[]⟩,⟨3,[8],[],[],[],[]⟩,⟨4,[2],[],[],[],[]⟩,⟨5,[2],[],[],[],[]⟩]
noncomputable def F99:IFn:=⟨1,11,(bodyF (compFn Try.prog h99 Try.f99)),[⟨2,none⟩]⟩
theorem is99:compFn Try.prog h99 Try.f99=some F99:=by kernel_rfl
noncomputable def h100:List RH:=[⟨0,[1,2],[],[],[],[]⟩,⟨1,[1,2,5],[],[],[],[]⟩,⟨2,[1,2,5,11],[],[],[],[]⟩,⟨3,[4],[],[],[],[]⟩,⟨4,[2,6,7],[],[],[⟨false,2,(some 18),0,0,false⟩,⟨false,2,(some 19),0,0,false⟩,⟨false,1,none,0,0,false⟩],[]⟩,⟨5,[2,6,19],[],[],[],[]⟩,⟨6,[4],[],[],[],[]⟩,⟨7,[22],[],[],[],[]⟩,⟨8,[4],[],[],[],[]⟩,⟨9,[4],[],[],[],[]⟩]
noncomputable def F100:IFn:=⟨2,28,(bodyF (compFn Try.prog h100 Try.f100)),[⟨4,none⟩]⟩
theorem is100:compFn Try.prog h100 Try.f100=some F100:=by kernel_rfl
noncomputable def h101:List RH:=[⟨0,[2,3],[],[],[],[]⟩,⟨1,[2,3,12],[],[],[],[]⟩,⟨2,[4],[],[],[],[]⟩,⟨3,[2,3,5],[],[3],[],[]⟩,⟨4,[2,5,18,19,20],[],[],[],[]⟩,⟨5,[2,5,18,19,20,21],[],[],[],[]⟩,⟨6,[2,5,7,18,19,20],[],[],[],[]⟩,⟨7,[2,5,18,19,20],[],[],[],[]⟩,⟨8,[2,5,18,19,20],[],[],[],[]⟩,⟨9,[4],[],[],[],[]⟩]
noncomputable def F101:IFn:=⟨2,40,(bodyF (compFn Try.prog h101 Try.f101)),[⟨4,none⟩]⟩
theorem is101:compFn Try.prog h101 Try.f101=some F101:=by kernel_rfl
noncomputable def h103:List RH:=[⟨0,[0,1,4],[],[],[],[]⟩,⟨1,[4,5],[],[],[⟨false,0,none,0,0,false⟩,⟨false,1,none,0,0,false⟩],[]⟩]
noncomputable def F103:IFn:=⟨2,18,(bodyF (compFn Try.prog h103 Try.f103)),[⟨4,(some (some 3))⟩,⟨5,none⟩]⟩
theorem is103:compFn Try.prog h103 Try.f103=some F103:=by kernel_rfl
noncomputable def h105:List RH:=[⟨0,[0,1,2,6],[],[],[],[]⟩,⟨1,[0,1,2,6,17],[],[],[],[]⟩,⟨2,[6,7],[],[],[],[]⟩,⟨3,[0,1,2,6,8],[],[],[⟨false,1,none,0,0,false⟩,⟨false,2,none,0,0,false⟩],[]⟩,⟨4,[0,1,2,6,8,9],[],[],[⟨false,1,none,0,0,false⟩,⟨false,8,none,0,0,false⟩],[]⟩,⟨5,[0,1,6,9,12],[],[],[⟨false,2,none,0,0,false⟩,⟨false,8,none,0,0,false⟩],[]⟩,⟨6,[6,7],[],[],[],[]⟩]
noncomputable def F105:IFn:=⟨3,45,(bodyF (compFn Try.prog h105 Try.f105)),[⟨6,(some (some 3))⟩,⟨7,none⟩]⟩
theorem is105:compFn Try.prog h105 Try.f105=some F105:=by kernel_rfl
noncomputable def h106:List RH:=[⟨0,[0,1],[],[],[],[]⟩,⟨1,[0,1,5],[],[],[],[⟨true,5,none,126,1,true⟩]⟩,⟨2,[0,1,5,6],[],[],[],[]⟩,⟨3,[0,1,5,6,7],[],[],[],[]⟩,⟨4,[0,1,5,6,7,15],[],[],[],[]⟩,⟨6,[0,1,5,7,8],[],[],[],[]⟩,⟨7,[0,1,5,7,8],[],[4,5],[],[]⟩,⟨8,[0,1,5,6,7],[],[],[],[]⟩,⟨5,[0,1,5,6,7],[],[],[],[]⟩,⟨9,[4],[],[],[⟨false,5,none,0,0,false⟩],[]⟩]
noncomputable def F106:IFn:=⟨2,37,(bodyF (compFn Try.prog h106 Try.f106)),[⟨4,none⟩]⟩
theorem is106:compFn Try.prog h106 Try.f106=some F106:=by kernel_rfl
noncomputable def h107:List RH:=[⟨0,[0,1],[],[],[],[]⟩,⟨1,[0,1,13],[],[],[],[]⟩,⟨2,[4,5],[],[],[],[]⟩,⟨3,[0,1,6],[],[],[],[⟨true,6,none,126,1,true⟩]⟩,⟨4,[0,1,6,7],[],[],[],[]⟩,⟨5,[0,1,6,7,8],[],[],[],[]⟩,⟨6,[0,1,6,7,8,17],[],[],[],[]⟩,⟨8,[0,1,6,8,9],[],[],[],[]⟩,⟨9,[0,1,6,8,9],[],[4,5],[],[]⟩,⟨10,[0,1,6,7,8],[],[],[],[]⟩,⟨7,[0,1,6,7,8],[],[],[],[]⟩,⟨11,[4,5],[],[],[⟨false,6,none,0,0,false⟩],[]⟩]
noncomputable def F107:IFn:=⟨2,41,(bodyF (compFn Try.prog h107 Try.f107)),[⟨4,none⟩,⟨5,none⟩]⟩
theorem is107:compFn Try.prog h107 Try.f107=some F107:=by kernel_rfl
noncomputable def h109:List RH:=[⟨0,[1,2],[],[],[],[]⟩,⟨1,[1,2,6],[],[],[],[⟨true,6,none,43,8,true⟩]⟩,⟨2,[1,2,6,7],[],[],[],[]⟩,⟨3,[1,2,6,7,11],[],[],[],[]⟩,⟨5,[1,2,6,7,44],[],[],[],[]⟩,⟨6,[4,5],[],[],[],[]⟩,⟨7,[1,2,6,7],[],[9,10],[],[]⟩,⟨4,[1,2,6,7],[],[],[],[]⟩,⟨8,[4,5],[],[],[],[]⟩]
noncomputable def F109:IFn:=⟨2,57,(bodyF (compFn Try.prog h109 Try.f109)),[⟨4,none⟩,⟨5,none⟩]⟩
theorem is109:compFn Try.prog h109 Try.f109=some F109:=by kernel_rfl
noncomputable def h110:List RH:=[⟨0,[1,3,5],[],[],[],[]⟩,⟨1,[1,3,5,8],[],[],[],[]⟩,⟨2,[1,3,5,8,13],[],[],[],[]⟩,⟨3,[20],[],[],[],[]⟩,⟨4,[6,7],[],[],[],[]⟩,⟨5,[6,7],[],[],[],[]⟩,⟨6,[1,3,5,8,21],[],[],[],[]⟩,⟨7,[6,7],[],[],[],[]⟩,⟨8,[3,5,9],[],[],[],[]⟩,⟨9,[3,5,9,67],[],[],[],[]⟩,⟨10,[6,7],[],[],[],[]⟩,⟨11,[6,7],[],[],[],[]⟩]
noncomputable def F110:IFn:=⟨3,80,(bodyF (compFn Try.prog h110 Try.f110)),[⟨6,none⟩,⟨7,none⟩]⟩
theorem is110:compFn Try.prog h110 Try.f110=some F110:=by kernel_rfl
noncomputable def h112:List RH:=[⟨0,[1,2],[],[],[],[]⟩,⟨1,[1,2,5],[],[],[],[]⟩,⟨2,[1,2,5,9],[],[],[],[]⟩,⟨3,[4],[],[],[],[]⟩,⟨4,[20],[],[],[],[]⟩,⟨5,[4],[],[],[],[]⟩,⟨6,[4],[],[],[],[]⟩]
noncomputable def F112:IFn:=⟨2,21,(bodyF (compFn Try.prog h112 Try.f112)),[⟨4,none⟩]⟩
theorem is112:compFn Try.prog h112 Try.f112=some F112:=by kernel_rfl
noncomputable def h113:List RH:=[⟨0,[1],[],[],[],[]⟩,⟨1,[1,3],[],[1],[],[⟨true,3,(some 20),43,8,true⟩,⟨true,3,(some 21),43,8,true⟩,⟨true,3,(some 22),43,8,true⟩,⟨true,3,(some 23),43,8,true⟩,⟨true,3,(some 24),43,8,true⟩,⟨true,3,(some 25),43,8,true⟩,⟨true,3,(some 26),43,8,true⟩,⟨true,3,(some 27),43,8,true⟩]⟩,⟨2,[3,11,12,13],[],[],[],[]⟩,⟨3,[3,11,12,13,14],[],[],[],[]⟩,⟨4,[3,5,11,12,13],[],[],[],[]⟩,⟨5,[3,11,12,13],[],[12],[],[]⟩,⟨6,[3,11,12,13],[],[],[],[]⟩,⟨7,[2],[],[],[],[]⟩]
noncomputable def F113:IFn:=⟨1,35,(bodyF (compFn Try.prog h113 Try.f113)),[⟨2,none⟩]⟩
theorem is113:compFn Try.prog h113 Try.f113=some F113:=by kernel_rfl
noncomputable def h114:List RH:=[⟨0,[0,1,4],[],[],[],[]⟩,⟨1,[4],[],[],[],[]⟩]
noncomputable def F114:IFn:=⟨2,17,(bodyF (compFn Try.prog h114 Try.f114)),[⟨4,(some (some 13))⟩]⟩
theorem is114:compFn Try.prog h114 Try.f114=some F114:=by kernel_rfl
noncomputable def h115:List RH:=[⟨0,[0,3],[],[],[],[]⟩,⟨1,[0,3,16],[],[],[],[]⟩,⟨2,[4],[],[],[],[]⟩,⟨3,[0,3,5,6],[],[],[],[]⟩,⟨4,[0,3,5,26],[],[],[],[]⟩,⟨5,[4],[],[],[],[]⟩,⟨6,[0,3,7],[],[],[],[]⟩,⟨7,[0,3,7,33],[],[],[],[]⟩,⟨8,[0,3,7],[],[],[],[]⟩,⟨9,[0,3,7,8],[],[],[],[]⟩,⟨10,[0,3,7,8],[],[],[],[]⟩,⟨11,[0,3,7,9],[],[2],[],[]⟩,⟨12,[0,3,9,51,52,53],[],[],[],[]⟩,⟨13,[0,3,9,51,52,53,54],[],[],[],[]⟩,⟨14,[0,3,9,11,51,52,53],[],[],[],[]⟩,⟨15,[0,3,9,11,12,13,51,52,53],[],[3],[],[]⟩,⟨16,[0,3,9,11,12,51,52,53,64],[],[],[],[]⟩,⟨17,[0,3,9,51,52,53],[],[5],[],[]⟩,⟨18,[0,3,9,51,52,53],[],[],[],[]⟩,⟨19,[9],[],[],[],[]⟩,⟨20,[4],[],[],[],[]⟩]
noncomputable def F115:IFn:=⟨2,81,(bodyF (compFn Try.prog h115 Try.f115)),[⟨4,none⟩]⟩
theorem is115:compFn Try.prog h115 Try.f115=some F115:=by kernel_rfl
noncomputable def h116:List RH:=[⟨0,[0,4,5,6],[],[],[],[]⟩,⟨1,[4,5,6,8],[],[2],[],[]⟩,⟨2,[4,5,6,8,24],[],[],[],[]⟩,⟨3,[6,7],[],[],[],[]⟩,⟨4,[6,7],[],[],[],[]⟩]
noncomputable def F116:IFn:=⟨3,42,(bodyF (compFn Try.prog h116 Try.f116)),[⟨6,(some (some 13))⟩,⟨7,none⟩]⟩
theorem is116:compFn Try.prog h116 Try.f116=some F116:=by kernel_rfl
noncomputable def h118:List RH:=[⟨0,[1],[],[],[],[]⟩,⟨1,[1,3],[],[],[],[]⟩,⟨2,[1,3,14],[],[],[],[]⟩,⟨3,[2],[],[],[],[]⟩,⟨4,[1,16],[],[],[],[]⟩,⟨5,[1,16,17],[],[],[],[]⟩,⟨6,[1,4,16],[],[],[],[]⟩,⟨7,[1,4,5,6,16],[],[],[],[]⟩,⟨8,[1,16,60],[],[],[],[]⟩,⟨9,[2],[],[],[],[]⟩,⟨10,[1,16],[],[],[],[]⟩,⟨11,[1,73],[],[],[],[]⟩,⟨12,[2],[],[],[],[]⟩,⟨13,[76,77,78],[],[],[],[]⟩,⟨14,[76,77,78,79],[],[],[],[]⟩,⟨15,[8,76,77,78],[],[],[],[]⟩,⟨16,[76,77,78,87],[],[],[],[]⟩,⟨17,[2],[],[],[],[]⟩,⟨18,[76,77,78],[],[],[],[]⟩,⟨19,[2],[],[],[],[]⟩]
noncomputable def F118:IFn:=⟨1,89,(bodyF (compFn Try.prog h118 Try.f118)),[⟨2,none⟩]⟩
theorem is118:compFn Try.prog h118 Try.f118=some F118:=by kernel_rfl
noncomputable def h119:List RH:=[⟨0,[2,3],[],[],[],[]⟩,⟨1,[2,3,5],[],[],[],[]⟩,⟨2,[2,3,5,13],[],[],[],[]⟩,⟨3,[4],[],[],[],[]⟩,⟨4,[2,3,15],[],[],[],[]⟩,⟨5,[4],[],[],[],[]⟩,⟨6,[20],[],[2],[],[]⟩,⟨7,[4],[],[],[],[]⟩,⟨8,[4],[],[],[],[]⟩]
noncomputable def F119:IFn:=⟨2,26,(bodyF (compFn Try.prog h119 Try.f119)),[⟨4,none⟩]⟩
theorem is119:compFn Try.prog h119 Try.f119=some F119:=by kernel_rfl
noncomputable def h121:List RH:=[⟨0,[1],[],[],[],[]⟩,⟨1,[1,4],[],[],[],[]⟩,⟨2,[1,4,11],[],[],[],[]⟩,⟨3,[2,3],[],[],[],[]⟩,⟨4,[1,5],[],[1],[],[]⟩,⟨5,[1,5,6],[],[],[],[⟨true,6,none,2,1,true⟩]⟩,⟨6,[5,6,18,19],[],[],[],[]⟩,⟨7,[5,6,18,19,20],[],[],[],[]⟩,⟨8,[5,6,7,18,19],[],[],[],[]⟩,⟨9,[5,6,18,19],[],[4,5,6,7],[],[]⟩,⟨10,[5,6,18,19],[],[],[],[]⟩,⟨11,[2,3],[],[],[],[]⟩]
noncomputable def F121:IFn:=⟨1,32,(bodyF (compFn Try.prog h121 Try.f121)),[⟨2,none⟩,⟨3,none⟩]⟩
theorem is121:compFn Try.prog h121 Try.f121=some F121:=by kernel_rfl
noncomputable def h122:List RH:=[⟨0,[0,2,9,10,11],[],[],[],[]⟩,⟨1,[0,2,9,10,11,12],[],[],[],[]⟩,⟨2,[0,2,4,5,9,10,11],[],[],[],[]⟩,⟨3,[0,2,4,6,9,10,11],[],[],[],[]⟩,⟨4,[0,2,4,6,9,10,11,22,23,24],[],[],[],[]⟩,⟨5,[0,2,4,6,9,10,11,22,23,24,25],[],[],[],[]⟩,⟨6,[0,2,4,6,7,8,9,10,11,22,23,24],[],[],[],[]⟩,⟨7,[0,2,4,6,7,8,9,10,11,22,23,24,29],[],[],[],[]⟩,⟨8,[0,2,4,6,9,10,11,22,23,24],[],[],[],[]⟩,⟨9,[0,2,4,6,7,9,10,11,22,23,24,42],[],[],[],[]⟩,⟨10,[0,2,4,6,9,10,11,22,23,24],[],[],[],[]⟩,⟨11,[0,2,4,6,9,10,11,22,23,24],[],[],[],[]⟩,⟨12,[0,2,9,10,11,57],[],[],[],[]⟩,⟨13,[0,2,9,10,11],[],[],[],[]⟩]
noncomputable def F122:IFn:=⟨3,59,(bodyF (compFn Try.prog h122 Try.f122)),[]⟩
theorem is122:compFn Try.prog h122 Try.f122=some F122:=by kernel_rfl
noncomputable def h125:List RH:=[⟨0,[0,1],[],[],[],[]⟩,⟨1,[0,1,10],[],[],[],[]⟩,⟨2,[1,6],[],[],[⟨false,0,none,0,0,false⟩,⟨false,1,none,0,0,false⟩],[]⟩,⟨3,[0,6],[],[],[],[]⟩,⟨4,[0,1],[],[],[],[]⟩,⟨5,[4],[],[],[⟨false,0,none,0,0,false⟩],[]⟩]
noncomputable def F125:IFn:=⟨2,22,(bodyF (compFn Try.prog h125 Try.f125)),[⟨4,none⟩]⟩
theorem is125:compFn Try.prog h125 Try.f125=some F125:=by kernel_rfl
noncomputable def h126:List RH:=[⟨0,[0,1,2,6],[],[],[],[]⟩,⟨1,[6,7],[],[],[⟨false,0,none,0,0,false⟩,⟨false,1,none,0,0,false⟩,⟨false,2,none,0,0,false⟩],[]⟩,⟨2,[6],[],[],[],[]⟩]
noncomputable def F126:IFn:=⟨3,17,(bodyF (compFn Try.prog h126 Try.f126)),[⟨6,(some (some 3))⟩]⟩
theorem is126:compFn Try.prog h126 Try.f126=some F126:=by kernel_rfl
noncomputable def h127:List RH:=[⟨0,[0],[],[],[],[]⟩,⟨1,[0,4],[],[],[],[]⟩,⟨2,[2],[],[],[],[]⟩,⟨3,[2],[],[],[],[]⟩]
noncomputable def F127:IFn:=⟨1,14,(bodyF (compFn Try.prog h127 Try.f127)),[⟨2,none⟩]⟩
theorem is127:compFn Try.prog h127 Try.f127=some F127:=by kernel_rfl
noncomputable def h128:List RH:=[⟨0,[0],[],[],[],[]⟩,⟨1,[2],[],[5],[],[]⟩]
noncomputable def F128:IFn:=⟨1,10,(bodyF (compFn Try.prog h128 Try.f128)),[⟨2,none⟩]⟩
theorem is128:compFn Try.prog h128 Try.f128=some F128:=by kernel_rfl
noncomputable def h129:List RH:=[⟨0,[2,3,4],[],[],[],[]⟩,⟨1,[2,3,4,5,6],[],[],[⟨false,2,(some 1),0,0,false⟩,⟨false,2,(some 2),0,0,false⟩,⟨false,3,(some 1),0,0,false⟩,⟨false,3,(some 2),0,0,false⟩],[]⟩,⟨2,[2,3,4,5,6,7],[],[],[⟨false,2,(some 2),0,0,false⟩,⟨false,3,(some 2),0,0,false⟩],[]⟩,⟨3,[2,3,4,5,6,7,27],[],[],[],[]⟩,⟨4,[4],[],[],[⟨false,5,none,0,0,false⟩,⟨false,6,none,0,0,false⟩,⟨false,7,none,0,0,false⟩],[]⟩,⟨5,[2,3,4,5,6,7,8,9],[],[],[⟨false,5,none,0,0,false⟩,⟨false,6,none,0,0,false⟩],[]⟩,⟨6,[2,3,4,5,6,7,8,41],[],[],[],[]⟩,⟨7,[4],[],[],[⟨false,8,none,0,0,false⟩,⟨false,7,none,0,0,false⟩],[]⟩,⟨8,[3,4,7,10],[],[],[⟨false,6,none,0,0,false⟩,⟨false,5,none,0,0,false⟩],[]⟩,⟨9,[4],[],[],[⟨false,10,none,0,0,false⟩,⟨false,7,none,0,0,false⟩],[]⟩]
noncomputable def F129:IFn:=⟨2,58,(bodyF (compFn Try.prog h129 Try.f129)),[⟨4,(some (some 3))⟩]⟩
theorem is129:compFn Try.prog h129 Try.f129=some F129:=by kernel_rfl
noncomputable def h130:List RH:=[⟨0,[1,2],[],[],[],[]⟩,⟨1,[2],[],[],[⟨false,1,(some 1),0,0,false⟩,⟨false,1,(some 2),0,0,false⟩],[]⟩]
noncomputable def F130:IFn:=⟨1,11,(bodyF (compFn Try.prog h130 Try.f130)),[⟨2,(some (some 3))⟩]⟩
theorem is130:compFn Try.prog h130 Try.f130=some F130:=by kernel_rfl
noncomputable def h131:List RH:=[⟨0,[2,3],[],[],[],[]⟩,⟨1,[4,5],[],[],[⟨false,2,(some 1),0,0,false⟩,⟨false,3,(some 2),0,0,false⟩,⟨false,3,(some 1),0,0,false⟩,⟨false,2,(some 2),0,0,false⟩],[]⟩]
noncomputable def F131:IFn:=⟨2,16,(bodyF (compFn Try.prog h131 Try.f131)),[⟨4,none⟩,⟨5,none⟩]⟩
theorem is131:compFn Try.prog h131 Try.f131=some F131:=by kernel_rfl
noncomputable def h132:List RH:=[⟨0,[0,1],[],[],[],[]⟩,⟨1,[0,1],[],[],[],[]⟩,⟨2,[0,1,15],[],[],[],[]⟩,⟨3,[20],[],[],[],[]⟩,⟨4,[4],[],[],[],[]⟩,⟨5,[4],[],[],[],[]⟩,⟨6,[0,1,22,23],[],[],[],[]⟩,⟨7,[0,1,22,23,24],[],[],[],[]⟩,⟨8,[0,1,5,22,23],[],[],[],[]⟩,⟨9,[0,1,6,22,23],[],[],[],[]⟩,⟨10,[0,1,6,22,23,39],[],[],[],[]⟩,⟨11,[4],[],[],[],[]⟩,⟨12,[0,1,22,23,48],[],[],[],[]⟩,⟨13,[4],[],[],[],[]⟩,⟨14,[0,1,22,23],[],[],[],[]⟩,⟨15,[4],[],[],[],[]⟩]
noncomputable def F132:IFn:=⟨2,50,(bodyF (compFn Try.prog h132 Try.f132)),[⟨4,none⟩]⟩
theorem is132:compFn Try.prog h132 Try.f132=some F132:=by kernel_rfl
noncomputable def h133:List RH:=[⟨0,[1,2],[],[],[],[]⟩,⟨1,[1,2,6],[],[],[],[⟨true,6,none,43,8,true⟩]⟩,⟨2,[1,2,6,7],[],[],[],[]⟩,⟨3,[2,6,7,10,11,12],[],[],[],[]⟩,⟨4,[2,6,7,10,11,12,13],[],[],[],[]⟩,⟨5,[2,6,7,9,10,11,12],[],[],[],[]⟩,⟨6,[2,6,9,10,11,12,25],[],[],[],[]⟩,⟨7,[4,5],[],[],[],[]⟩,⟨8,[2,6,7,9,10,11,12],[],[],[],[]⟩,⟨9,[2,6,7,10,11,12],[],[6,7],[],[]⟩,⟨10,[2,6,7,10,11,12],[],[],[],[]⟩,⟨11,[4,5],[],[],[],[]⟩]
noncomputable def F133:IFn:=⟨2,37,(bodyF (compFn Try.prog h133 Try.f133)),[⟨4,none⟩,⟨5,none⟩]⟩
theorem is133:compFn Try.prog h133 Try.f133=some F133:=by kernel_rfl
noncomputable def h134:List RH:=[⟨0,[1,2],[],[],[],[]⟩,⟨1,[1,2,5],[],[],[],[]⟩,⟨2,[1,2,5,11,12],[],[],[],[]⟩,⟨3,[1,2,5,11,12,13],[],[],[],[]⟩,⟨4,[1,2,5,6,11,12],[],[],[],[]⟩,⟨5,[1,2,5,6,7,11,12],[],[],[],[]⟩,⟨6,[1,2,5,6,7,11,12,15,16,17],[],[],[],[]⟩,⟨7,[1,2,5,6,7,11,12,15,16,17,18],[],[],[],[]⟩,⟨8,[1,2,5,6,7,9,11,12,15,16,17],[],[],[],[]⟩,⟨9,[1,2,5,6,7,11,12,15,16,17],[],[],[],[]⟩,⟨10,[1,2,5,6,7,11,12,15,16,17],[],[],[],[]⟩,⟨11,[1,2,5,11,12,33],[],[],[],[]⟩,⟨12,[4],[],[],[],[]⟩,⟨13,[1,2,5,11,12],[],[],[],[]⟩,⟨14,[4],[],[],[],[]⟩]
noncomputable def F134:IFn:=⟨2,35,(bodyF (compFn Try.prog h134 Try.f134)),[⟨4,none⟩]⟩
theorem is134:compFn Try.prog h134 Try.f134=some F134:=by kernel_rfl
noncomputable def h135:List RH:=[⟨0,[0],[],[],[],[]⟩,⟨1,[0,4],[],[],[],[]⟩,⟨2,[2],[],[],[],[]⟩,⟨3,[2],[],[],[],[]⟩]
noncomputable def F135:IFn:=⟨1,14,(bodyF (compFn Try.prog h135 Try.f135)),[⟨2,none⟩]⟩
theorem is135:compFn Try.prog h135 Try.f135=some F135:=by kernel_rfl
noncomputable def h138:List RH:=[⟨0,[0,1],[],[],[],[]⟩,⟨1,[0,1,13],[],[],[],[]⟩,⟨2,[4,5,6],[],[],[],[]⟩,⟨3,[0,1,7],[],[],[],[]⟩,⟨4,[0,1,7,8],[],[],[],[⟨true,8,none,126,1,true⟩,⟨false,8,none,0,0,false⟩]⟩,⟨5,[0,1,7,8,9],[],[],[⟨false,0,none,0,0,false⟩,⟨false,7,none,0,0,false⟩],[]⟩,⟨6,[0,1,8,9,10],[],[],[],[]⟩,⟨7,[0,1,8,9,10,28],[],[],[],[]⟩,⟨9,[0,1,8,9,10],[],[],[],[]⟩,⟨10,[0,1,8,9,10],[],[],[],[]⟩,⟨11,[0,1,8,9,10,45],[],[],[],[]⟩,⟨12,[0,1,8,9,10],[],[],[⟨false,1,none,0,0,false⟩],[]⟩,⟨13,[0,1,8,9,10],[],[],[],[]⟩,⟨8,[0,1,8,9,10],[],[],[],[]⟩,⟨14,[4,5,6],[],[],[],[]⟩]
noncomputable def F138:IFn:=⟨2,57,(bodyF (compFn Try.prog h138 Try.f138)),[⟨4,none⟩,⟨5,none⟩,⟨6,none⟩]⟩
theorem is138:compFn Try.prog h138 Try.f138=some F138:=by kernel_rfl
noncomputable def h139:List RH:=[⟨0,[0,1],[],[],[],[]⟩,⟨1,[0,1,8],[],[],[],[]⟩,⟨2,[4],[],[],[],[]⟩,⟨3,[4],[],[],[],[]⟩]
noncomputable def F139:IFn:=⟨2,14,(bodyF (compFn Try.prog h139 Try.f139)),[⟨4,none⟩]⟩
theorem is139:compFn Try.prog h139 Try.f139=some F139:=by kernel_rfl
noncomputable def h140:List RH:=[⟨0,[0],[],[],[],[]⟩,⟨1,[0,14],[],[],[],[]⟩,⟨2,[0],[],[],[],[]⟩,⟨3,[2],[],[2],[],[⟨false,2,none,0,0,false⟩]⟩]
noncomputable def F140:IFn:=⟨1,23,(bodyF (compFn Try.prog h140 Try.f140)),[⟨2,none⟩]⟩
theorem is140:compFn Try.prog h140 Try.f140=some F140:=by kernel_rfl
noncomputable def h141:List RH:=[⟨0,[0,1],[],[],[],[]⟩,⟨1,[0,1,5],[],[],[],[]⟩,⟨2,[0,1,5,13],[],[],[],[]⟩,⟨4,[0,1,5,22],[],[],[],[]⟩,⟨5,[4],[],[],[],[]⟩,⟨6,[0,1,5,29],[],[],[],[]⟩,⟨7,[4],[],[],[],[]⟩,⟨3,[0,1,5],[],[],[],[]⟩,⟨8,[4],[],[],[],[]⟩]
noncomputable def F141:IFn:=⟨2,30,(bodyF (compFn Try.prog h141 Try.f141)),[⟨4,none⟩]⟩
theorem is141:compFn Try.prog h141 Try.f141=some F141:=by kernel_rfl
noncomputable def h143:List RH:=[⟨0,[0,3,4],[],[],[],[]⟩,⟨1,[0,3,4,5],[],[],[],[]⟩,⟨2,[0,3,4,5,9],[],[],[],[]⟩,⟨3,[0,3,4,5,9,10],[],[],[],[]⟩,⟨4,[0,3,4,5,6,9],[],[],[],[]⟩,⟨5,[0,3,4,5,6,9,38],[],[],[],[]⟩,⟨6,[0,3,4,5,9],[],[],[],[]⟩,⟨7,[0,3,4,5,9],[],[],[],[]⟩,⟨8,[4],[],[],[],[]⟩]
noncomputable def F143:IFn:=⟨2,43,(bodyF (compFn Try.prog h143 Try.f143)),[⟨4,(some (some 6))⟩]⟩
theorem is143:compFn Try.prog h143 Try.f143=some F143:=by kernel_rfl
noncomputable def h144:List RH:=[⟨0,[2,3],[],[],[],[]⟩,⟨1,[4],[],[],[],[]⟩]
noncomputable def F144:IFn:=⟨2,10,(bodyF (compFn Try.prog h144 Try.f144)),[⟨4,none⟩]⟩
theorem is144:compFn Try.prog h144 Try.f144=some F144:=by kernel_rfl
noncomputable def h145:List RH:=[⟨0,[2,3,4],[],[],[],[]⟩,⟨1,[2,3,4,6],[],[],[],[]⟩,⟨2,[2,3,4,6,7],[],[],[],[]⟩,⟨3,[2,3,4,5,6],[],[],[],[]⟩,⟨4,[2,3,4,6],[],[],[],[]⟩,⟨5,[2,3,4,6],[],[],[],[]⟩,⟨6,[4],[],[],[],[]⟩]
noncomputable def F145:IFn:=⟨2,19,(bodyF (compFn Try.prog h145 Try.f145)),[⟨4,(some (some 6))⟩]⟩
theorem is145:compFn Try.prog h145 Try.f145=some F145:=by kernel_rfl
noncomputable def h146:List RH:=[⟨0,[1],[],[],[],[]⟩,⟨1,[5,6],[],[],[],[]⟩,⟨2,[5,6,7],[],[],[],[]⟩,⟨3,[4,5,6],[],[],[],[]⟩,⟨4,[5,6,14],[],[],[],[]⟩,⟨5,[2],[],[],[],[]⟩,⟨6,[5,6],[],[],[],[]⟩,⟨7,[2],[],[],[],[]⟩]
noncomputable def F146:IFn:=⟨1,16,(bodyF (compFn Try.prog h146 Try.f146)),[⟨2,none⟩]⟩
theorem is146:compFn Try.prog h146 Try.f146=some F146:=by kernel_rfl
noncomputable def h147:List RH:=[⟨0,[0,3],[],[],[],[]⟩,⟨1,[3,5],[],[],[],[]⟩,⟨2,[4],[],[],[],[]⟩,⟨3,[3,15],[],[],[],[]⟩,⟨4,[4],[],[],[],[]⟩,⟨5,[4],[],[],[],[]⟩]
noncomputable def F147:IFn:=⟨2,27,(bodyF (compFn Try.prog h147 Try.f147)),[⟨4,none⟩]⟩
theorem is147:compFn Try.prog h147 Try.f147=some F147:=by kernel_rfl
noncomputable def h151:List RH:=[⟨0,[0,1,2,6],[],[],[],[]⟩,⟨1,[0,1,2,6,17],[],[],[],[]⟩,⟨2,[6,7],[],[],[],[]⟩,⟨3,[0,1,2,6,8],[],[],[⟨false,1,none,0,0,false⟩,⟨false,2,none,0,0,false⟩],[]⟩,⟨4,[0,2,6,8,9,11],[],[],[⟨false,1,none,0,0,false⟩,⟨false,8,none,0,0,false⟩],[]⟩,⟨5,[0,6,9,11,12,14],[],[],[⟨false,2,none,0,0,false⟩,⟨false,8,none,0,0,false⟩],[]⟩,⟨6,[0,6,9,12,41],[],[],[],[]⟩,⟨7,[6,7],[],[],[],[]⟩,⟨8,[6,7],[],[],[],[]⟩]
noncomputable def F151:IFn:=⟨3,52,(bodyF (compFn Try.prog h151 Try.f151)),[⟨6,(some (some 3))⟩,⟨7,none⟩]⟩
theorem is151:compFn Try.prog h151 Try.f151=some F151:=by kernel_rfl
noncomputable def h152:List RH:=[⟨0,[0],[],[],[],[]⟩,⟨1,[0,3],[],[],[],[]⟩,⟨2,[0,3,15],[],[],[],[]⟩,⟨3,[0,3],[],[],[],[]⟩,⟨4,[2],[],[],[],[]⟩]
noncomputable def F152:IFn:=⟨1,22,(bodyF (compFn Try.prog h152 Try.f152)),[⟨2,none⟩]⟩
theorem is152:compFn Try.prog h152 Try.f152=some F152:=by kernel_rfl
noncomputable def h153:List RH:=[⟨0,[0,1],[],[],[],[]⟩,⟨1,[0,1,5],[],[5],[],[]⟩,⟨2,[0,1,5,17,18],[],[],[],[]⟩,⟨3,[0,1,5,17,18,19],[],[],[],[]⟩,⟨4,[0,1,5,6,17,18],[],[],[],[]⟩,⟨5,[0,1,5,6,7,17,18],[],[],[],[]⟩,⟨6,[0,1,5,6,7,17,18,22,23],[],[],[],[]⟩,⟨7,[0,1,5,6,7,17,18,22,23,24],[],[],[],[]⟩,⟨8,[0,1,5,6,7,8,17,18,22,23],[],[],[],[]⟩,⟨9,[0,1,5,6,8,9,17,18,22,23],[],[],[],[]⟩,⟨10,[0,1,5,6,7,17,18,22,23],[],[],[],[]⟩,⟨11,[0,1,5,6,7,17,18,22,23],[],[],[],[]⟩,⟨12,[0,1,5,17,18],[],[],[],[]⟩,⟨13,[0,1,5,17,18],[],[],[],[]⟩,⟨14,[4],[],[],[⟨false,5,none,0,0,false⟩],[]⟩]
noncomputable def F153:IFn:=⟨2,68,(bodyF (compFn Try.prog h153 Try.f153)),[⟨4,none⟩]⟩
theorem is153:compFn Try.prog h153 Try.f153=some F153:=by kernel_rfl
noncomputable def h154:List RH:=[⟨0,[0,1],[],[],[],[]⟩,⟨1,[0,1,13],[],[],[],[]⟩,⟨2,[0,1],[],[],[],[]⟩,⟨3,[0,1,5],[],[3],[],[]⟩,⟨4,[0,1,5,6],[],[],[],[]⟩,⟨5,[0,1,5,6,21,22],[],[],[],[]⟩,⟨6,[0,1,5,6,21,22,23],[],[],[],[]⟩,⟨7,[0,1,5,6,7,21,22],[],[],[],[]⟩,⟨8,[0,1,5,7,8,21,22],[],[],[],[]⟩,⟨9,[0,1,5,7,8,21,22,35],[],[],[],[]⟩,⟨10,[0,1,5,7,8,21,22],[],[],[],[]⟩,⟨11,[0,1,5,6,21,22],[],[],[],[]⟩,⟨12,[0,1,5,6,21,22],[],[],[],[]⟩,⟨13,[5],[],[],[],[]⟩,⟨14,[4],[],[],[⟨false,5,none,0,0,false⟩],[]⟩]
noncomputable def F154:IFn:=⟨2,59,(bodyF (compFn Try.prog h154 Try.f154)),[⟨4,none⟩]⟩
theorem is154:compFn Try.prog h154 Try.f154=some F154:=by kernel_rfl
noncomputable def h155:List RH:=[⟨0,[0,1],[],[],[],[]⟩,⟨1,[0,1],[],[],[],[]⟩,⟨2,[0,1,17],[],[],[],[]⟩,⟨3,[4,5],[],[],[],[]⟩,⟨4,[0,1,6],[],[2],[],[]⟩,⟨5,[0,1,6,7],[],[],[],[]⟩,⟨6,[0,1,6,7,22,23],[],[],[],[]⟩,⟨7,[0,1,6,7,22,23,24],[],[],[],[]⟩,⟨8,[0,1,6,7,8,22,23],[],[],[],[]⟩,⟨9,[0,1,6,8,9,22,23],[],[],[],[]⟩,⟨10,[0,1,6,8,9,22,23,36],[],[],[],[]⟩,⟨11,[0,1,6,8,9,22,23],[],[],[],[]⟩,⟨12,[0,1,6,7,22,23],[],[],[],[]⟩,⟨13,[0,1,6,7,22,23],[],[],[],[]⟩,⟨14,[4,5],[],[],[⟨false,6,none,0,0,false⟩],[]⟩]
noncomputable def F155:IFn:=⟨2,54,(bodyF (compFn Try.prog h155 Try.f155)),[⟨4,none⟩,⟨5,none⟩]⟩
theorem is155:compFn Try.prog h155 Try.f155=some F155:=by kernel_rfl
noncomputable def h156:List RH:=[⟨0,[1,3,5],[],[],[],[]⟩,⟨1,[1,3,5,7],[],[],[],[]⟩,⟨6,[3,5,7,41],[],[],[],[]⟩,⟨7,[6],[],[],[],[]⟩,⟨8,[3,5,7,50],[],[],[],[]⟩,⟨9,[6],[],[],[],[]⟩,⟨10,[3,5,7,53],[],[],[],[]⟩,⟨11,[6],[],[],[],[]⟩,⟨2,[3,5,7],[],[],[],[]⟩,⟨3,[5,7,36],[],[],[],[]⟩,⟨4,[6],[],[],[],[]⟩,⟨5,[6],[],[],[],[]⟩]
noncomputable def F156:IFn:=⟨3,60,(bodyF (compFn Try.prog h156 Try.f156)),[⟨6,none⟩]⟩
theorem is156:compFn Try.prog h156 Try.f156=some F156:=by kernel_rfl
noncomputable def h157:List RH:=[⟨0,[1],[],[],[],[]⟩,⟨1,[2],[],[],[],[]⟩]
noncomputable def F157:IFn:=⟨1,8,(bodyF (compFn Try.prog h157 Try.f157)),[⟨2,none⟩]⟩
theorem is157:compFn Try.prog h157 Try.f157=some F157:=by kernel_rfl
noncomputable def h158:List RH:=[⟨0,[1,2],[],[],[],[]⟩,⟨1,[2,5],[],[],[],[]⟩,⟨3,[2,5,18],[],[],[],[]⟩,⟨4,[4],[],[],[],[]⟩,⟨5,[2,5,21],[],[],[],[]⟩,⟨6,[4],[],[],[],[]⟩,⟨2,[4],[],[],[],[]⟩]
noncomputable def F158:IFn:=⟨2,29,(bodyF (compFn Try.prog h158 Try.f158)),[⟨4,none⟩]⟩
theorem is158:compFn Try.prog h158 Try.f158=some F158:=by kernel_rfl
noncomputable def h159:List RH:=[⟨0,[0],[],[],[],[]⟩,⟨1,[2],[],[6],[],[]⟩]
noncomputable def F159:IFn:=⟨1,11,(bodyF (compFn Try.prog h159 Try.f159)),[⟨2,none⟩]⟩
theorem is159:compFn Try.prog h159 Try.f159=some F159:=by kernel_rfl
noncomputable def h160:List RH:=[⟨0,[0],[],[],[],[]⟩,⟨1,[0,3],[],[],[],[]⟩,⟨2,[0,3,15],[],[],[],[]⟩,⟨3,[0,3],[],[],[],[]⟩,⟨4,[2],[],[],[],[]⟩]
noncomputable def F160:IFn:=⟨1,19,(bodyF (compFn Try.prog h160 Try.f160)),[⟨2,none⟩]⟩
theorem is160:compFn Try.prog h160 Try.f160=some F160:=by kernel_rfl
noncomputable def h161:List RH:=[⟨0,[0,1],[],[],[],[]⟩,⟨1,[0,1,5],[],[],[],[⟨true,5,none,126,1,true⟩]⟩,⟨2,[0,1,5,6],[],[],[],[]⟩,⟨3,[0,1,5,6,13],[],[],[],[]⟩,⟨5,[0,1,5,6,7],[],[],[],[]⟩,⟨6,[0,1,5,6],[],[8,9],[],[]⟩,⟨4,[0,1,5,6],[],[],[],[]⟩,⟨7,[4],[],[],[⟨false,5,none,0,0,false⟩],[]⟩]
noncomputable def F161:IFn:=⟨2,37,(bodyF (compFn Try.prog h161 Try.f161)),[⟨4,none⟩]⟩
theorem is161:compFn Try.prog h161 Try.f161=some F161:=by kernel_rfl
noncomputable def h162:List RH:=[⟨0,[0,1],[],[],[],[]⟩,⟨1,[4],[],[],[],[]⟩]
noncomputable def F162:IFn:=⟨2,14,(bodyF (compFn Try.prog h162 Try.f162)),[⟨4,none⟩]⟩
theorem is162:compFn Try.prog h162 Try.f162=some F162:=by kernel_rfl
noncomputable def h163:List RH:=[⟨0,[2,3,4],[],[],[],[]⟩,⟨1,[2,3,4,6],[],[],[],[]⟩,⟨2,[2,3,4,6,7],[],[],[],[]⟩,⟨3,[2,3,4,5,6],[],[],[],[]⟩,⟨4,[2,3,4,6],[],[],[],[]⟩,⟨5,[2,3,4,6],[],[],[],[]⟩,⟨6,[4],[],[],[],[]⟩]
noncomputable def F163:IFn:=⟨2,20,(bodyF (compFn Try.prog h163 Try.f163)),[⟨4,(some (some 6))⟩]⟩
theorem is163:compFn Try.prog h163 Try.f163=some F163:=by kernel_rfl
noncomputable def h165:List RH:=[⟨0,[0,1],[],[],[],[]⟩,⟨1,[0,1],[],[],[],[]⟩,⟨2,[0,1,14],[],[],[],[]⟩,⟨3,[0,1,6,7],[],[],[⟨false,0,none,0,0,false⟩,⟨false,1,none,0,0,false⟩],[]⟩,⟨4,[0,1,6,23],[],[],[],[]⟩,⟨5,[0,1],[],[],[],[]⟩,⟨6,[4],[],[],[],[]⟩]
noncomputable def F165:IFn:=⟨2,27,(bodyF (compFn Try.prog h165 Try.f165)),[⟨4,none⟩]⟩
theorem is165:compFn Try.prog h165 Try.f165=some F165:=by kernel_rfl
noncomputable def h166:List RH:=[⟨0,[0,1],[],[],[],[]⟩,⟨1,[0,1],[],[],[],[]⟩,⟨2,[0,1,23],[],[],[],[]⟩,⟨3,[4,5,6],[],[],[],[]⟩,⟨4,[0,1,27],[],[],[],[]⟩,⟨5,[4,5,6],[],[],[⟨false,0,none,0,0,false⟩],[]⟩,⟨6,[0,1,32],[],[],[],[]⟩,⟨7,[7,8],[],[],[⟨false,0,none,0,0,false⟩],[]⟩,⟨8,[4,5,6],[],[],[],[]⟩,⟨9,[0,1,9],[],[],[],[]⟩,⟨10,[0,1,9,53],[],[],[],[]⟩,⟨11,[0,1,9],[],[],[],[]⟩,⟨12,[0,1,9,10],[],[2],[],[]⟩,⟨13,[0,1,9,10,11],[],[],[],[]⟩,⟨14,[9,10,11,12,13],[],[],[],[]⟩,⟨15,[4,9,10,11,12,13],[],[2],[],[]⟩,⟨16,[4,9,10,11,12,13,74,75],[],[],[],[]⟩,⟨17,[4,9,10,11,12,13,74,75,76],[],[],[],[]⟩,⟨18,[4,9,10,11,12,13,14,74,75],[],[],[],[]⟩,⟨19,[4,9,10,11,12,13,15,74,75],[],[],[],[]⟩,⟨20,[4,9,10,11,12,13,74,75],[],[14],[],[]⟩,⟨21,[4,9,10,11,12,13,74,75],[],[],[],[]⟩,⟨22,[4,5,9,10,12],[],[1],[],[]⟩,⟨23,[4,5,9,10,100,101],[],[],[],[]⟩,⟨24,[4,5,9,10,100,101,102],[],[],[],[]⟩,⟨25,[4,5,9,10,16,100,101],[],[],[],[]⟩,⟨26,[4,5,9,10,16,100,101],[],[],[],[]⟩,⟨27,[4,5,9,10,16,100,101,114],[],[],[],[]⟩,⟨28,[4,5,9,10,100,101],[],[],[],[]⟩,⟨29,[4,5,9,10,100,101],[],[],[],[]⟩,⟨30,[4,5,6],[],[],[⟨false,4,none,0,0,false⟩,⟨false,5,none,0,0,false⟩],[]⟩]
noncomputable def F166:IFn:=⟨2,134,(bodyF (compFn Try.prog h166 Try.f166)),[⟨4,none⟩,⟨5,none⟩,⟨6,none⟩]⟩
theorem is166:compFn Try.prog h166 Try.f166=some F166:=by kernel_rfl
noncomputable def h167:List RH:=[⟨0,[0,1],[],[],[],[]⟩,⟨1,[0,1,6],[],[2],[],[]⟩,⟨2,[0,1,6,7],[],[],[],[]⟩,⟨3,[0,1,6,7,15,16],[],[],[],[]⟩,⟨4,[0,1,6,7,15,16,17],[],[],[],[]⟩,⟨5,[0,1,6,7,8,15,16],[],[],[],[]⟩,⟨6,[0,1,6,7,9,15,16],[],[],[],[]⟩,⟨7,[0,1,6,9,10,15,16],[],[],[],[]⟩,⟨8,[0,1,6,7,15,16],[],[],[],[]⟩,⟨9,[0,1,6,7,15,16],[],[],[],[]⟩,⟨10,[4,5],[],[],[⟨false,6,none,0,0,false⟩],[]⟩]
noncomputable def F167:IFn:=⟨2,49,(bodyF (compFn Try.prog h167 Try.f167)),[⟨4,none⟩,⟨5,none⟩]⟩
theorem is167:compFn Try.prog h167 Try.f167=some F167:=by kernel_rfl
noncomputable def h168:List RH:=[⟨0,[0,1],[],[],[],[]⟩,⟨1,[0,1,5],[],[],[],[]⟩,⟨2,[0,1,5,13,14],[],[],[],[]⟩,⟨3,[0,1,5,13,14,15],[],[],[],[]⟩,⟨4,[0,1,5,6,13,14],[],[],[],[]⟩,⟨5,[0,1,5,6,7,13,14],[],[],[],[]⟩,⟨6,[0,1,5,6,7,13,14],[],[],[],[]⟩,⟨7,[0,1,5,13,14],[],[],[],[]⟩,⟨8,[0,1,5,13,14],[],[],[],[]⟩,⟨9,[4],[],[],[],[]⟩]
noncomputable def F168:IFn:=⟨2,41,(bodyF (compFn Try.prog h168 Try.f168)),[⟨4,none⟩]⟩
theorem is168:compFn Try.prog h168 Try.f168=some F168:=by kernel_rfl
noncomputable def h169:List RH:=[⟨0,[0,1],[],[],[],[]⟩,⟨1,[0,1,5],[],[],[],[]⟩,⟨2,[0,1,5,6],[],[],[],[]⟩,⟨3,[0,1,5,7,8],[],[],[],[]⟩,⟨4,[0,1,5,7,8,69],[],[],[],[]⟩,⟨5,[0,1,5,7,8],[],[],[],[]⟩,⟨6,[0,1,5,7,8],[],[],[],[]⟩,⟨7,[0,1,5,7,8,81],[],[],[],[]⟩,⟨8,[0,1,5,7,9,10],[],[],[],[]⟩,⟨9,[0,1,5,7,9,10,82,83],[],[],[],[]⟩,⟨10,[0,1,5,7,9,10,82,83,84],[],[],[],[]⟩,⟨11,[0,1,5,7,9,10,11,82,83],[],[],[],[]⟩,⟨12,[0,1,5,7,10,11,12,82,83],[],[],[],[]⟩,⟨13,[0,1,5,7,9,10,11,12,82,83],[],[],[],[]⟩,⟨14,[0,1,5,7,9,11,13,82,83],[],[],[],[]⟩,⟨15,[0,1,5,7,9,10,82,83],[],[],[],[]⟩,⟨16,[0,1,5,7,9,10,82,83],[],[],[],[]⟩,⟨17,[0,1,5,7,14],[],[],[],[]⟩,⟨18,[0,1,5,7,14],[],[],[],[]⟩,⟨19,[0,1,5,7,131],[],[],[],[]⟩,⟨20,[4],[],[],[],[]⟩,⟨21,[0,1,5,7,9],[],[],[],[]⟩,⟨22,[0,1,5,7,9,134,135],[],[],[],[]⟩,⟨23,[0,1,5,7,9,134,135,136],[],[],[],[]⟩,⟨24,[0,1,5,7,9,15,134,135],[],[],[],[]⟩,⟨25,[0,1,5,7,15,16,134,135],[],[],[],[]⟩,⟨26,[0,1,5,7,9,134,135],[],[],[],[]⟩,⟨27,[0,1,5,7,9,134,135],[],[],[],[]⟩,⟨28,[7],[],[],[],[]⟩,⟨29,[4],[],[],[],[]⟩]
noncomputable def F169:IFn:=⟨2,170,(bodyF (compFn Try.prog h169 Try.f169)),[⟨4,none⟩]⟩
theorem is169:compFn Try.prog h169 Try.f169=some F169:=by kernel_rfl
end Go.Proofs.Ytigbjjkijfkeeaa.Ir
