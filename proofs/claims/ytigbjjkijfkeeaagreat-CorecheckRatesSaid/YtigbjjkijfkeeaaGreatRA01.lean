/-
  The small code of the functions, printed by program; each is what 'compFn' makes of the function.
-/
import Derived.Test.YtigbjjkijfkeeaaGreatChecked
import Derived.Test.YtigbjjkijfkeeaaGreatRA00
import Derived.KernelRfl
set_option maxRecDepth 100000
set_option maxHeartbeats 4000000
set_option linter.unusedSimpArgs false
set_option linter.unusedVariables false
namespace Go.Proofs.YtigbjjkijfkeeaaGreat.Ir
open Go Go.Vi
def bodyF:Option IFn→IR
 |some F=>F.body
 |none=> .skip
noncomputable def h24:List RH:=[⟨0,[1],[],[],[],[]⟩,⟨1,[1,11],[],[],[],[]⟩,⟨2,[2],[],[],[],[]⟩,⟨3,[1,3],[],[],[],[]⟩,⟨4,[1,3,13],[],[],[],[]⟩,⟨6,[1,3,63],[],[],[],[]⟩,⟨7,[2],[],[],[],[]⟩,⟨5,[1,3],[],[],[],[]⟩,⟨8,[1,73],[],[],[],[]⟩,⟨9,[2],[],[],[],[]⟩,⟨10,[1,4],[],[],[],[]⟩,⟨11,[1,4,78],[],[],[],[]⟩,⟨13,[1,4,94],[],[],[],[]⟩,⟨14,[2],[],[],[],[]⟩,⟨12,[1,4],[],[],[],[]⟩,⟨15,[1,5],[],[],[],[]⟩,⟨16,[1,5,99],[],[],[],[]⟩,⟨18,[1,5,6],[],[],[],[]⟩,⟨19,[1,5,6,117],[],[],[],[]⟩,⟨20,[2],[],[],[],[]⟩,⟨21,[1,5,6,137],[],[],[],[]⟩,⟨22,[2],[],[],[],[]⟩,⟨23,[1,5,6,142],[],[2],[],[]⟩,⟨24,[2],[],[],[],[]⟩,⟨25,[1,5,6,7],[],[],[],[]⟩,⟨26,[1,5,6,7,145],[],[],[],[]⟩,⟨28,[1,5,6,7,167],[],[],[],[]⟩,⟨29,[2],[],[],[],[]⟩,⟨27,[1,5,6,7],[],[],[],[]⟩,⟨17,[1,5],[],[],[],[]⟩,⟨30,[2],[],[],[],[]⟩]
noncomputable def F24:IFn:=⟨1,168,(bodyF (compFn Tryz.prog h24 Tryz.f47)),[⟨2,none⟩]⟩
theorem is24:compFn Tryz.prog h24 Tryz.f47=some F24:=by kernel_rfl
noncomputable def h38:List RH:=[⟨0,[1],[],[],[],[]⟩,⟨1,[2],[],[],[],[]⟩]
noncomputable def F38:IFn:=⟨1,13,(bodyF (compFn Tryz.prog h38 Tryz.f4)),[⟨2,none⟩]⟩
theorem is38:compFn Tryz.prog h38 Tryz.f4=some F38:=by kernel_rfl
noncomputable def h39:List RH:=[⟨0,[],[],[],[],[]⟩,⟨1,[1,2],[],[],[],[]⟩,⟨2,[1,2,3,4],[],[],[⟨false,1,(some 18),0,0,false⟩,⟨false,1,(some 19),0,0,false⟩,⟨false,2,(some 0),0,0,false⟩],[]⟩,⟨3,[1,2,3,4,5,6,7],[],[2],[⟨false,1,(some 18),0,0,false⟩,⟨false,1,(some 19),0,0,false⟩,⟨false,2,(some 0),0,0,false⟩],[]⟩,⟨4,[0],[],[7,27,35,43,51,58],[],[]⟩]
noncomputable def F39:IFn:=⟨0,90,(bodyF (compFn Tryz.prog h39 Tryz.f6)),[⟨0,none⟩]⟩
theorem is39:compFn Tryz.prog h39 Tryz.f6=some F39:=by kernel_rfl
noncomputable def h40:List RH:=[⟨0,[2,3],[],[],[],[]⟩,⟨1,[6,7,8],[],[],[⟨false,2,(some 18),0,0,false⟩,⟨false,2,(some 19),0,0,false⟩,⟨false,3,(some 0),0,0,false⟩],[]⟩,⟨2,[6,7,8,22],[],[],[],[]⟩,⟨3,[4,5],[],[],[],[]⟩,⟨4,[6,7,9],[],[2],[],[]⟩,⟨5,[9,29],[],[2],[],[]⟩,⟨6,[9,10],[],[],[],[]⟩,⟨7,[],[],[],[],[]⟩,⟨8,[9,11],[],[],[],[⟨true,11,none,54,2,true⟩]⟩,⟨9,[11,46,47,48],[],[],[],[]⟩,⟨10,[11,46,47,48,49],[],[],[],[]⟩,⟨11,[11,12,13,46,47,48],[],[],[],[]⟩,⟨12,[11,12,13,46,47,48,54],[],[],[],[]⟩,⟨13,[11,46,47,48],[],[4,5],[],[]⟩,⟨14,[11,46,47,48],[],[],[],[]⟩,⟨15,[4,5],[],[],[],[]⟩]
noncomputable def F40:IFn:=⟨2,63,(bodyF (compFn Tryz.prog h40 Tryz.f13)),[⟨4,none⟩,⟨5,none⟩]⟩
theorem is40:compFn Tryz.prog h40 Tryz.f13=some F40:=by kernel_rfl
noncomputable def h42:List RH:=[⟨0,[0,1],[],[],[],[]⟩,⟨1,[0,1,10],[],[],[],[]⟩,⟨2,[4],[],[],[],[]⟩,⟨3,[0,1,12,13],[],[],[],[]⟩,⟨4,[0,1,12,13,14],[],[],[],[]⟩,⟨5,[0,1,5,12,13],[],[],[],[]⟩,⟨6,[0,1,12,13,24],[],[],[],[]⟩,⟨7,[4],[],[],[],[]⟩,⟨8,[0,1,12,13],[],[],[],[]⟩,⟨9,[4],[],[],[],[]⟩]
noncomputable def F42:IFn:=⟨2,26,(bodyF (compFn Tryz.prog h42 Tryz.f16)),[⟨4,none⟩]⟩
theorem is42:compFn Tryz.prog h42 Tryz.f16=some F42:=by kernel_rfl
noncomputable def h43:List RH:=[⟨0,[0],[],[],[],[]⟩,⟨1,[0,5,6,7],[],[],[],[]⟩,⟨2,[0,5,6,7,8],[],[],[],[]⟩,⟨3,[0,4,5,6,7],[],[],[],[]⟩,⟨4,[0,5,6,7,25],[],[],[],[]⟩,⟨5,[2],[],[],[],[]⟩,⟨6,[0,5,6,7],[],[],[],[]⟩,⟨7,[2],[],[],[],[]⟩]
noncomputable def F43:IFn:=⟨1,30,(bodyF (compFn Tryz.prog h43 Tryz.f5)),[⟨2,none⟩]⟩
theorem is43:compFn Tryz.prog h43 Tryz.f5=some F43:=by kernel_rfl
noncomputable def h44:List RH:=[⟨0,[3,4,5,6,7],[],[],[],[]⟩,⟨1,[5,6,7,9,10,11],[],[],[⟨false,3,(some 18),0,0,false⟩,⟨false,3,(some 19),0,0,false⟩,⟨false,4,(some 0),0,0,false⟩],[]⟩,⟨2,[5,6,7,9,10,11,23],[],[],[],[]⟩,⟨3,[6,7,8],[],[],[],[]⟩,⟨4,[5,6,7,9,10,29],[],[],[],[]⟩,⟨5,[6,7,8],[],[],[],[]⟩,⟨6,[5,6,7,9,10,12],[],[],[],[]⟩,⟨7,[5,6,7,9,10,12,13],[],[],[],[]⟩,⟨8,[5,6,7,12,13,40],[],[2],[],[]⟩,⟨9,[5,12,13,14],[],[],[],[]⟩,⟨10,[12,13,14,15],[],[],[⟨false,5,(some 0),0,0,false⟩],[]⟩,⟨11,[12,13,14,15,55],[],[],[],[]⟩,⟨12,[],[],[],[],[]⟩,⟨13,[6,7,8],[],[],[],[]⟩]
noncomputable def F44:IFn:=⟨3,61,(bodyF (compFn Tryz.prog h44 Tryz.f14)),[⟨6,(some (some 2))⟩,⟨7,(some (some 3))⟩,⟨8,none⟩]⟩
theorem is44:compFn Tryz.prog h44 Tryz.f14=some F44:=by kernel_rfl
noncomputable def h45:List RH:=[⟨0,[2,3,4,6,7],[],[],[],[]⟩,⟨1,[2,3,4,6,7,9],[],[],[],[]⟩,⟨2,[2,3,4,6,7,9,20],[],[],[],[]⟩,⟨3,[6,7,8],[],[],[],[]⟩,⟨4,[2,3,4,6,7,29],[],[],[],[]⟩,⟨5,[6,7,8],[],[],[],[]⟩,⟨6,[2,3,4,6,7,10],[],[],[⟨false,3,(some 18),0,0,false⟩,⟨false,3,(some 19),0,0,false⟩],[]⟩,⟨7,[2,3,4,6,7,10,12,13],[],[],[],[]⟩,⟨8,[2,3,4,6,7,10,12,13,14],[],[],[],[]⟩,⟨9,[2,3,4,6,7,10,12,13,14,42],[],[],[],[]⟩,⟨11,[2,3,4,6,7,10,12,13,14,15],[],[],[⟨false,3,(some 18),0,0,false⟩,⟨false,3,(some 19),0,0,false⟩,⟨false,4,(some 0),0,0,false⟩,⟨false,2,none,0,0,false⟩,⟨false,14,none,0,0,false⟩],[]⟩,⟨12,[2,3,4,6,7,10,12,13,14,15,57],[],[],[],[]⟩,⟨13,[2,3,4,6,7,10,12,13,14,15],[],[],[],[]⟩,⟨14,[2,3,4,6,7,10,12,13,14],[],[],[],[]⟩,⟨10,[2,3,4,6,7,10,12,13,14],[],[],[],[]⟩,⟨15,[6,7,8],[],[],[],[]⟩]
noncomputable def F45:IFn:=⟨3,67,(bodyF (compFn Tryz.prog h45 Tryz.f20)),[⟨6,(some (some 2))⟩,⟨7,(some (some 3))⟩,⟨8,none⟩]⟩
theorem is45:compFn Tryz.prog h45 Tryz.f20=some F45:=by kernel_rfl
noncomputable def h46:List RH:=[⟨0,[2,3],[],[],[],[]⟩,⟨1,[2,3,29],[],[],[],[]⟩,⟨2,[4],[],[],[],[]⟩,⟨3,[2,3,5],[],[],[],[]⟩,⟨4,[2,3,5,34],[],[],[],[]⟩,⟨6,[2,3,5,47],[],[],[],[]⟩,⟨7,[4],[],[],[],[]⟩,⟨5,[2,3,5],[],[],[],[]⟩,⟨8,[2,3,6],[],[],[],[]⟩,⟨9,[2,3,6,52],[],[],[],[]⟩,⟨11,[2,3,6,65],[],[],[],[]⟩,⟨12,[4],[],[],[],[]⟩,⟨10,[2,3,6],[],[],[],[]⟩,⟨13,[4],[],[],[],[]⟩]
noncomputable def F46:IFn:=⟨2,66,(bodyF (compFn Tryz.prog h46 Tryz.f17)),[⟨4,none⟩]⟩
theorem is46:compFn Tryz.prog h46 Tryz.f17=some F46:=by kernel_rfl
noncomputable def h47:List RH:=[⟨0,[2,3,4],[],[],[],[]⟩,⟨1,[2,3,4,7,8,9],[],[],[⟨false,3,(some 18),0,0,false⟩,⟨false,3,(some 19),0,0,false⟩,⟨false,4,(some 0),0,0,false⟩,⟨false,2,none,0,0,false⟩],[]⟩,⟨2,[2,3,4,7,8,9,18],[],[],[],[]⟩,⟨3,[6],[],[],[],[]⟩,⟨4,[7,8,22],[],[],[],[]⟩,⟨5,[6],[],[],[],[]⟩,⟨6,[28],[],[],[],[]⟩,⟨7,[6],[],[],[],[]⟩,⟨8,[6],[],[],[],[]⟩]
noncomputable def F47:IFn:=⟨3,37,(bodyF (compFn Tryz.prog h47 Tryz.f7)),[⟨6,none⟩]⟩
theorem is47:compFn Tryz.prog h47 Tryz.f7=some F47:=by kernel_rfl
noncomputable def h48:List RH:=[⟨0,[1],[],[],[],[]⟩,⟨1,[1,4],[],[],[],[]⟩,⟨2,[2],[],[],[],[]⟩,⟨3,[8],[],[],[],[]⟩,⟨4,[2],[],[],[],[]⟩,⟨5,[2],[],[],[],[]⟩]
noncomputable def F48:IFn:=⟨1,9,(bodyF (compFn Tryz.prog h48 Tryz.f21)),[⟨2,none⟩]⟩
theorem is48:compFn Tryz.prog h48 Tryz.f21=some F48:=by kernel_rfl
noncomputable def h49:List RH:=[⟨0,[2,3,4],[],[],[],[]⟩,⟨1,[2,3,4,14],[],[],[],[]⟩,⟨2,[6],[],[],[],[]⟩,⟨3,[2,7],[],[],[⟨false,3,(some 18),0,0,false⟩,⟨false,3,(some 19),0,0,false⟩,⟨false,4,(some 0),0,0,false⟩],[]⟩,⟨4,[2,7,22],[],[],[],[]⟩,⟨5,[6],[],[],[],[]⟩,⟨6,[7,23,24,25],[],[],[],[]⟩,⟨7,[7,23,24,25,26],[],[],[],[]⟩,⟨8,[7,8,9,23,24,25],[],[],[],[]⟩,⟨9,[7,23,24,25,42],[],[],[],[]⟩,⟨10,[6],[],[],[],[]⟩,⟨11,[7,23,24,25],[],[],[],[]⟩,⟨12,[6],[],[],[],[]⟩]
noncomputable def F49:IFn:=⟨3,44,(bodyF (compFn Tryz.prog h49 Tryz.f9)),[⟨6,none⟩]⟩
theorem is49:compFn Tryz.prog h49 Tryz.f9=some F49:=by kernel_rfl
noncomputable def h51:List RH:=[⟨0,[0,2],[],[],[],[]⟩,⟨1,[2,3],[],[],[⟨false,0,none,0,0,false⟩],[]⟩,⟨2,[2],[],[],[],[]⟩]
noncomputable def F51:IFn:=⟨1,11,(bodyF (compFn Tryz.prog h51 Tryz.f18)),[⟨2,(some (some 3))⟩]⟩
theorem is51:compFn Tryz.prog h51 Tryz.f18=some F51:=by kernel_rfl
noncomputable def h52:List RH:=[⟨0,[2,3,4],[],[],[],[]⟩,⟨1,[2,3,4,5,6],[],[],[⟨false,2,(some 1),0,0,false⟩,⟨false,3,(some 2),0,0,false⟩,⟨false,3,(some 1),0,0,false⟩,⟨false,2,(some 2),0,0,false⟩],[]⟩,⟨2,[2,3,4,5,6,7],[],[],[⟨false,2,(some 2),0,0,false⟩,⟨false,3,(some 2),0,0,false⟩],[]⟩,⟨3,[2,3,4,5,6,7,37],[],[],[],[]⟩,⟨4,[4,8],[],[],[⟨false,5,none,0,0,false⟩,⟨false,6,none,0,0,false⟩,⟨false,7,none,0,0,false⟩],[]⟩,⟨5,[4],[],[],[],[]⟩,⟨6,[2,3,4,5,6,7,10,11],[],[],[⟨false,5,none,0,0,false⟩,⟨false,6,none,0,0,false⟩],[]⟩,⟨7,[2,3,4,5,6,7,10,55],[],[],[],[]⟩,⟨8,[4,12],[],[],[⟨false,10,none,0,0,false⟩,⟨false,7,none,0,0,false⟩],[]⟩,⟨9,[4],[],[],[],[]⟩,⟨10,[3,4,7,14],[],[],[⟨false,6,none,0,0,false⟩,⟨false,5,none,0,0,false⟩],[]⟩,⟨11,[4,16],[],[],[⟨false,14,none,0,0,false⟩,⟨false,7,none,0,0,false⟩],[]⟩,⟨12,[4],[],[],[],[]⟩]
noncomputable def F52:IFn:=⟨2,80,(bodyF (compFn Tryz.prog h52 Tryz.f73)),[⟨4,(some (some 3))⟩]⟩
theorem is52:compFn Tryz.prog h52 Tryz.f73=some F52:=by kernel_rfl
noncomputable def h53:List RH:=[⟨0,[2,3],[],[],[],[]⟩,⟨1,[4],[],[],[⟨false,2,(some 1),0,0,false⟩,⟨false,2,(some 2),0,0,false⟩,⟨false,3,(some 1),0,0,false⟩,⟨false,3,(some 2),0,0,false⟩],[]⟩]
noncomputable def F53:IFn:=⟨2,9,(bodyF (compFn Tryz.prog h53 Tryz.f28)),[⟨4,none⟩]⟩
theorem is53:compFn Tryz.prog h53 Tryz.f28=some F53:=by kernel_rfl
noncomputable def h55:List RH:=[⟨0,[1,2],[],[],[],[]⟩,⟨1,[1,2,5],[],[],[],[]⟩,⟨2,[1,2,5,11],[],[],[],[]⟩,⟨3,[4],[],[],[],[]⟩,⟨4,[2,6,7],[],[],[⟨false,2,(some 18),0,0,false⟩,⟨false,2,(some 19),0,0,false⟩,⟨false,1,none,0,0,false⟩],[]⟩,⟨5,[2,6,20],[],[],[],[]⟩,⟨6,[4],[],[],[],[]⟩,⟨7,[24],[],[],[],[]⟩,⟨8,[4],[],[],[],[]⟩,⟨9,[4],[],[],[],[]⟩]
noncomputable def F55:IFn:=⟨2,25,(bodyF (compFn Tryz.prog h55 Tryz.f26)),[⟨4,none⟩]⟩
theorem is55:compFn Tryz.prog h55 Tryz.f26=some F55:=by kernel_rfl
noncomputable def h56:List RH:=[⟨0,[0],[],[],[],[]⟩,⟨1,[0,3],[],[],[],[⟨true,3,none,40,3,false⟩]⟩,⟨2,[3,6,7,8],[],[],[],[]⟩,⟨3,[3,6,7,8,9],[],[],[],[]⟩,⟨4,[3,5,6,7,8],[],[],[],[]⟩,⟨5,[3,6,7,8],[],[3,4],[⟨false,5,none,0,0,false⟩],[]⟩,⟨6,[3,6,7,8],[],[],[],[]⟩,⟨7,[2],[],[],[],[]⟩]
noncomputable def F56:IFn:=⟨1,19,(bodyF (compFn Tryz.prog h56 Tryz.f15)),[⟨2,none⟩]⟩
theorem is56:compFn Tryz.prog h56 Tryz.f15=some F56:=by kernel_rfl
noncomputable def h57:List RH:=[⟨0,[2,3],[],[],[],[]⟩,⟨1,[2,3,5],[],[3],[],[]⟩,⟨2,[2,3,5,6],[],[],[],[]⟩,⟨3,[2,3,5,6,16],[],[],[],[]⟩,⟨5,[2,3,5,6,7],[],[],[],[]⟩,⟨6,[2,3,5,6],[],[],[],[]⟩,⟨4,[2,3,5,6],[],[],[],[]⟩,⟨7,[4],[],[],[],[]⟩]
noncomputable def F57:IFn:=⟨2,35,(bodyF (compFn Tryz.prog h57 Tryz.f27)),[⟨4,none⟩]⟩
theorem is57:compFn Tryz.prog h57 Tryz.f27=some F57:=by kernel_rfl
noncomputable def h68:List RH:=[⟨0,[1],[],[],[],[]⟩,⟨1,[1,3],[],[],[],[]⟩,⟨2,[1,3,5],[],[],[],[]⟩,⟨4,[1,3,17],[],[],[],[]⟩,⟨5,[2],[],[],[],[]⟩,⟨3,[1,3],[],[],[],[]⟩,⟨6,[2],[],[],[],[]⟩]
noncomputable def F68:IFn:=⟨1,18,(bodyF (compFn Tryz.prog h68 Tryz.f71)),[⟨2,none⟩]⟩
theorem is68:compFn Tryz.prog h68 Tryz.f71=some F68:=by kernel_rfl
noncomputable def h69:List RH:=[⟨0,[1,2],[],[],[],[]⟩,⟨1,[1,2,5],[],[],[],[]⟩,⟨2,[1,2,5,17],[],[],[],[]⟩,⟨4,[1,2,5,6],[],[],[],[]⟩,⟨5,[1,2,5,6,7],[],[],[],[]⟩,⟨6,[1,2,5,6,7,23],[],[],[],[]⟩,⟨8,[1,2,5,6,7,8],[],[],[],[]⟩,⟨9,[1,2,5,6,7],[],[],[],[]⟩,⟨7,[1,2,5,6,7],[],[],[],[]⟩,⟨10,[1,2,5,6,11],[],[],[],[]⟩,⟨11,[1,2,5,48],[],[],[],[]⟩,⟨12,[4],[],[],[],[]⟩,⟨3,[1,2,5],[],[],[],[]⟩,⟨13,[4],[],[],[],[]⟩]
noncomputable def F69:IFn:=⟨2,49,(bodyF (compFn Tryz.prog h69 Tryz.f49)),[⟨4,none⟩]⟩
theorem is69:compFn Tryz.prog h69 Tryz.f49=some F69:=by kernel_rfl
noncomputable def h79:List RH:=[⟨0,[1],[],[],[],[]⟩,⟨1,[1,3],[],[],[],[]⟩,⟨2,[1,3,4],[],[],[],[]⟩,⟨3,[1,3,4,15],[],[],[],[]⟩,⟨4,[2],[],[],[],[]⟩,⟨5,[1,3,5],[],[0],[],[]⟩,⟨6,[3,5,19,20,21],[],[],[],[]⟩,⟨7,[3,5,19,20,21,22],[],[],[],[]⟩,⟨8,[3,5,7,19,20,21],[],[],[],[]⟩,⟨9,[3,5,7,8,19,20,21],[],[],[],[]⟩,⟨10,[3,5,7,8,19,20,21,29],[],[],[],[]⟩,⟨11,[2],[],[],[],[]⟩,⟨12,[3,5,9,19,20,21],[],[],[],[]⟩,⟨13,[3,5,9,19,20,21,38],[],[],[],[]⟩,⟨14,[2],[],[],[],[]⟩,⟨15,[3,5,19,20,21],[],[],[],[]⟩,⟨16,[3,5,19,20,21],[],[],[],[]⟩,⟨17,[2],[],[],[],[]⟩]
noncomputable def F79:IFn:=⟨1,42,(bodyF (compFn Tryz.prog h79 Tryz.f39)),[⟨2,none⟩]⟩
theorem is79:compFn Tryz.prog h79 Tryz.f39=some F79:=by kernel_rfl
noncomputable def h86:List RH:=[⟨0,[0,1],[],[],[],[]⟩,⟨1,[0,1,2],[],[],[],[]⟩,⟨2,[0,1,3],[],[2,9],[],[]⟩,⟨3,[0,1],[],[1],[],[]⟩]
noncomputable def F86:IFn:=⟨0,19,(bodyF (compFn Tryz.prog h86 Tryz.f12)),[⟨0,(some (some 20))⟩,⟨1,(some (some 2))⟩]⟩
theorem is86:compFn Tryz.prog h86 Tryz.f12=some F86:=by kernel_rfl
noncomputable def h87:List RH:=[⟨0,[2,3],[],[],[],[]⟩,⟨1,[2,3,7],[],[],[],[]⟩,⟨2,[2,3,7,15],[],[],[],[]⟩,⟨3,[4,5,6],[],[],[],[]⟩,⟨4,[2,3,8,9],[],[],[⟨false,2,(some 18),0,0,false⟩,⟨false,2,(some 19),0,0,false⟩],[]⟩,⟨5,[2,3,8,9,23],[],[],[],[]⟩,⟨6,[4,5,6],[],[],[],[]⟩,⟨7,[4,5,6],[],[],[⟨false,2,(some 18),0,0,false⟩,⟨false,2,(some 19),0,0,false⟩,⟨false,3,(some 0),0,0,false⟩],[]⟩]
noncomputable def F87:IFn:=⟨2,29,(bodyF (compFn Tryz.prog h87 Tryz.f31)),[⟨4,none⟩,⟨5,none⟩,⟨6,none⟩]⟩
theorem is87:compFn Tryz.prog h87 Tryz.f31=some F87:=by kernel_rfl
noncomputable def h88:List RH:=[⟨0,[2,3],[],[],[],[]⟩,⟨1,[4],[],[],[],[]⟩]
noncomputable def F88:IFn:=⟨2,6,(bodyF (compFn Tryz.prog h88 Tryz.f32)),[⟨4,none⟩]⟩
theorem is88:compFn Tryz.prog h88 Tryz.f32=some F88:=by kernel_rfl
noncomputable def h89:List RH:=[⟨0,[2,3],[],[],[],[]⟩,⟨1,[2,5],[],[],[],[]⟩,⟨2,[2,5,11],[],[],[],[]⟩,⟨3,[4],[],[],[],[]⟩,⟨4,[5],[],[],[⟨false,2,(some 18),0,0,false⟩,⟨false,2,(some 19),0,0,false⟩],[]⟩,⟨5,[4],[],[],[],[]⟩]
noncomputable def F89:IFn:=⟨2,19,(bodyF (compFn Tryz.prog h89 Tryz.f36)),[⟨4,none⟩]⟩
theorem is89:compFn Tryz.prog h89 Tryz.f36=some F89:=by kernel_rfl
noncomputable def h90:List RH:=[⟨0,[1],[],[],[],[]⟩,⟨1,[1,4],[],[],[],[]⟩,⟨2,[1,4,12],[],[],[],[]⟩,⟨3,[2,3],[],[],[],[]⟩,⟨4,[1,5],[],[],[],[⟨true,5,none,2,1,true⟩]⟩,⟨5,[1,5,6],[],[],[],[]⟩,⟨6,[1,5,6,19],[],[],[],[]⟩,⟨8,[1,5,6,7],[],[],[],[]⟩,⟨9,[1,5,6],[],[2,3],[],[]⟩,⟨7,[1,5,6],[],[],[],[]⟩,⟨10,[2,3],[],[],[],[]⟩]
noncomputable def F90:IFn:=⟨1,33,(bodyF (compFn Tryz.prog h90 Tryz.f37)),[⟨2,none⟩,⟨3,none⟩]⟩
theorem is90:compFn Tryz.prog h90 Tryz.f37=some F90:=by kernel_rfl
noncomputable def h91:List RH:=[⟨0,[2,3,4],[],[],[],[]⟩,⟨1,[2,7],[],[],[⟨false,3,(some 18),0,0,false⟩,⟨false,3,(some 19),0,0,false⟩,⟨false,4,(some 0),0,0,false⟩],[]⟩,⟨2,[2,7,8,9],[],[],[],[]⟩,⟨3,[2,7,8,9,10],[],[],[],[]⟩,⟨4,[2,7,8,9,10,17],[],[],[],[]⟩,⟨6,[2,7,8,9,10,30],[],[],[],[]⟩,⟨7,[2,7,8,9,10],[],[],[],[]⟩,⟨8,[2,7,8,9,10],[],[],[],[]⟩,⟨5,[2,7,8,9,10],[],[],[],[]⟩,⟨9,[6],[],[],[],[]⟩]
noncomputable def F91:IFn:=⟨3,37,(bodyF (compFn Tryz.prog h91 Tryz.f61)),[⟨6,none⟩]⟩
theorem is91:compFn Tryz.prog h91 Tryz.f61=some F91:=by kernel_rfl
noncomputable def h92:List RH:=[⟨0,[2,3,4,5],[],[],[],[]⟩,⟨1,[2,3,9],[],[],[⟨false,4,(some 18),0,0,false⟩,⟨false,4,(some 19),0,0,false⟩,⟨false,5,(some 0),0,0,false⟩],[]⟩,⟨2,[2,3,9,10],[],[],[],[]⟩,⟨3,[2,3,9,10,17],[],[],[],[]⟩,⟨5,[2,3,9,10,22],[],[],[],[]⟩,⟨6,[2,3,9,10],[],[],[],[]⟩,⟨4,[2,3,9,10],[],[],[],[]⟩,⟨7,[8],[],[],[],[]⟩]
noncomputable def F92:IFn:=⟨4,30,(bodyF (compFn Tryz.prog h92 Tryz.f60)),[⟨8,none⟩]⟩
theorem is92:compFn Tryz.prog h92 Tryz.f60=some F92:=by kernel_rfl
noncomputable def h93:List RH:=[⟨0,[1],[],[],[],[]⟩,⟨1,[1,19],[],[],[],[]⟩,⟨2,[2],[],[],[],[]⟩,⟨3,[1,23],[],[],[],[]⟩,⟨4,[2],[],[],[],[]⟩,⟨5,[3],[],[],[⟨false,1,(some 1),0,0,false⟩,⟨false,1,(some 2),0,0,false⟩],[]⟩,⟨6,[2],[],[],[],[]⟩]
noncomputable def F93:IFn:=⟨1,54,(bodyF (compFn Tryz.prog h93 Tryz.f11)),[⟨2,none⟩]⟩
theorem is93:compFn Tryz.prog h93 Tryz.f11=some F93:=by kernel_rfl
noncomputable def h94:List RH:=[⟨0,[0,2],[],[],[],[]⟩,⟨1,[2],[],[],[⟨false,0,none,0,0,false⟩],[]⟩]
noncomputable def F94:IFn:=⟨1,9,(bodyF (compFn Tryz.prog h94 Tryz.f25)),[⟨2,(some (some 3))⟩]⟩
theorem is94:compFn Tryz.prog h94 Tryz.f25=some F94:=by kernel_rfl
noncomputable def h95:List RH:=[⟨0,[2,3,4],[],[],[],[]⟩,⟨1,[4],[],[],[⟨false,3,(some 1),0,0,false⟩,⟨false,3,(some 2),0,0,false⟩,⟨false,2,(some 1),0,0,false⟩,⟨false,2,(some 2),0,0,false⟩],[]⟩]
noncomputable def F95:IFn:=⟨2,9,(bodyF (compFn Tryz.prog h95 Tryz.f33)),[⟨4,(some (some 3))⟩]⟩
theorem is95:compFn Tryz.prog h95 Tryz.f33=some F95:=by kernel_rfl
noncomputable def h96:List RH:=[⟨0,[0,1,4],[],[],[],[]⟩,⟨1,[0,1,4,5],[],[],[],[]⟩,⟨2,[1,4,5,9,10,11],[],[],[],[]⟩,⟨3,[1,4,5,9,10,11,12],[],[],[],[]⟩,⟨4,[1,4,5,6,7,9,10,11],[],[],[],[]⟩,⟨5,[1,4,5,7,9,10,11,20],[],[],[],[]⟩,⟨6,[1,4,5,9,10,11],[],[],[⟨false,5,(some 1),0,0,false⟩,⟨false,5,(some 2),0,0,false⟩,⟨false,7,(some 1),0,0,false⟩,⟨false,7,(some 2),0,0,false⟩],[]⟩,⟨7,[1,4,5,9,10,11],[],[],[],[]⟩,⟨8,[4],[],[],[],[]⟩]
noncomputable def F96:IFn:=⟨2,26,(bodyF (compFn Tryz.prog h96 Tryz.f34)),[⟨4,(some (some 3))⟩]⟩
theorem is96:compFn Tryz.prog h96 Tryz.f34=some F96:=by kernel_rfl
noncomputable def h97:List RH:=[⟨0,[2,3],[],[],[],[]⟩,⟨1,[2,3,11],[],[],[],[]⟩,⟨2,[13],[],[],[],[]⟩,⟨3,[4],[],[],[],[]⟩,⟨4,[4],[],[],[],[]⟩,⟨5,[2,5,6],[],[],[⟨false,2,(some 1),0,0,false⟩,⟨false,2,(some 2),0,0,false⟩,⟨false,3,(some 1),0,0,false⟩,⟨false,3,(some 2),0,0,false⟩],[]⟩,⟨6,[5,6,21],[],[],[],[]⟩,⟨7,[4],[],[],[],[]⟩,⟨8,[4],[],[],[],[]⟩]
noncomputable def F97:IFn:=⟨2,28,(bodyF (compFn Tryz.prog h97 Tryz.f24)),[⟨4,none⟩]⟩
theorem is97:compFn Tryz.prog h97 Tryz.f24=some F97:=by kernel_rfl
noncomputable def h98:List RH:=[⟨0,[2,3,4,5,6,10],[],[],[],[]⟩,⟨1,[2,3,5,6,10,11],[],[],[],[]⟩,⟨2,[2,10,11,12],[],[],[],[]⟩,⟨3,[2,10,11,12,13],[],[],[],[]⟩,⟨4,[2,10,11,12,13,27],[],[],[],[]⟩,⟨6,[2,10,11,12,13,32],[],[],[],[]⟩,⟨7,[2,10,11,12,13],[],[],[⟨false,11,(some 1),0,0,false⟩,⟨false,11,(some 2),0,0,false⟩],[]⟩,⟨5,[2,10,11,12,13],[],[],[],[]⟩,⟨8,[10],[],[],[],[]⟩]
noncomputable def F98:IFn:=⟨5,40,(bodyF (compFn Tryz.prog h98 Tryz.f38)),[⟨10,(some (some 3))⟩]⟩
theorem is98:compFn Tryz.prog h98 Tryz.f38=some F98:=by kernel_rfl
noncomputable def h99:List RH:=[⟨0,[1],[],[],[],[]⟩,⟨1,[1,3],[],[],[],[]⟩,⟨2,[2],[],[],[],[]⟩,⟨3,[8],[],[],[],[]⟩,⟨4,[2],[],[],[],[]⟩,⟨5,[2],[],[],[],[]⟩]
noncomputable def F99:IFn:=⟨1,11,(bodyF (compFn Tryz.prog h99 Tryz.f19)),[⟨2,none⟩]⟩
theorem is99:compFn Tryz.prog h99 Tryz.f19=some F99:=by kernel_rfl
noncomputable def h100:List RH:=[⟨0,[1,2],[],[],[],[]⟩,⟨1,[1,2,5],[],[],[],[]⟩,⟨2,[1,2,5,11],[],[],[],[]⟩,⟨3,[4],[],[],[],[]⟩,⟨4,[2,6,7],[],[],[⟨false,2,(some 18),0,0,false⟩,⟨false,2,(some 19),0,0,false⟩,⟨false,1,none,0,0,false⟩],[]⟩,⟨5,[2,6,19],[],[],[],[]⟩,⟨6,[4],[],[],[],[]⟩,⟨7,[22],[],[],[],[]⟩,⟨8,[4],[],[],[],[]⟩,⟨9,[4],[],[],[],[]⟩]
noncomputable def F100:IFn:=⟨2,28,(bodyF (compFn Tryz.prog h100 Tryz.f22)),[⟨4,none⟩]⟩
theorem is100:compFn Tryz.prog h100 Tryz.f22=some F100:=by kernel_rfl
noncomputable def h101:List RH:=[⟨0,[2,3],[],[],[],[]⟩,⟨1,[2,3,12],[],[],[],[]⟩,⟨2,[4],[],[],[],[]⟩,⟨3,[2,3,5],[],[3],[],[]⟩,⟨4,[2,5,18,19,20],[],[],[],[]⟩,⟨5,[2,5,18,19,20,21],[],[],[],[]⟩,⟨6,[2,5,7,18,19,20],[],[],[],[]⟩,⟨7,[2,5,18,19,20],[],[],[],[]⟩,⟨8,[2,5,18,19,20],[],[],[],[]⟩,⟨9,[4],[],[],[],[]⟩]
noncomputable def F101:IFn:=⟨2,40,(bodyF (compFn Tryz.prog h101 Tryz.f23)),[⟨4,none⟩]⟩
theorem is101:compFn Tryz.prog h101 Tryz.f23=some F101:=by kernel_rfl
noncomputable def h102:List RH:=[⟨0,[0,1],[],[],[],[]⟩,⟨1,[0,1,5],[],[],[],[]⟩,⟨2,[0,1,5,8],[],[],[],[]⟩,⟨4,[0,1,5],[],[],[],[]⟩,⟨3,[0,1,5],[],[],[],[]⟩,⟨5,[4],[],[],[],[]⟩]
noncomputable def F102:IFn:=⟨2,16,(bodyF (compFn Tryz.prog h102 Tryz.f62)),[⟨4,none⟩]⟩
theorem is102:compFn Tryz.prog h102 Tryz.f62=some F102:=by kernel_rfl
noncomputable def h103:List RH:=[⟨0,[0,1,4],[],[],[],[]⟩,⟨1,[4,5],[],[],[⟨false,0,none,0,0,false⟩,⟨false,1,none,0,0,false⟩],[]⟩]
noncomputable def F103:IFn:=⟨2,18,(bodyF (compFn Tryz.prog h103 Tryz.f35)),[⟨4,(some (some 3))⟩,⟨5,none⟩]⟩
theorem is103:compFn Tryz.prog h103 Tryz.f35=some F103:=by kernel_rfl
noncomputable def h104:List RH:=[⟨0,[0,1],[],[],[],[]⟩,⟨1,[0,1,5],[],[],[],[⟨true,5,none,63,1,true⟩,⟨false,5,none,0,0,false⟩]⟩,⟨2,[0,1,5,6],[],[],[],[]⟩,⟨3,[0,1,5,6,10],[],[],[],[]⟩,⟨5,[0,1,5,6],[],[],[⟨false,0,none,0,0,false⟩,⟨false,6,none,0,0,false⟩],[]⟩,⟨4,[0,1,5,6],[],[],[],[]⟩,⟨6,[4],[],[],[],[]⟩]
noncomputable def F104:IFn:=⟨2,25,(bodyF (compFn Tryz.prog h104 Tryz.f92)),[⟨4,none⟩]⟩
theorem is104:compFn Tryz.prog h104 Tryz.f92=some F104:=by kernel_rfl
noncomputable def h105:List RH:=[⟨0,[0,1,2,6],[],[],[],[]⟩,⟨1,[0,1,2,6,17],[],[],[],[]⟩,⟨2,[6,7],[],[],[],[]⟩,⟨3,[0,1,2,6,8],[],[],[⟨false,1,none,0,0,false⟩,⟨false,2,none,0,0,false⟩],[]⟩,⟨4,[0,1,2,6,8,9],[],[],[⟨false,1,none,0,0,false⟩,⟨false,8,none,0,0,false⟩],[]⟩,⟨5,[0,1,6,9,12],[],[],[⟨false,2,none,0,0,false⟩,⟨false,8,none,0,0,false⟩],[]⟩,⟨6,[6,7],[],[],[],[]⟩]
noncomputable def F105:IFn:=⟨3,45,(bodyF (compFn Tryz.prog h105 Tryz.f57)),[⟨6,(some (some 3))⟩,⟨7,none⟩]⟩
theorem is105:compFn Tryz.prog h105 Tryz.f57=some F105:=by kernel_rfl
noncomputable def h106:List RH:=[⟨0,[0,1],[],[],[],[]⟩,⟨1,[0,1,5],[],[],[],[⟨true,5,none,63,1,true⟩]⟩,⟨2,[0,1,5,6],[],[],[],[]⟩,⟨3,[0,1,5,6,7],[],[],[],[]⟩,⟨4,[0,1,5,6,7,15],[],[],[],[]⟩,⟨6,[0,1,5,7,8],[],[],[],[]⟩,⟨7,[0,1,5,7,8],[],[4,5],[],[]⟩,⟨8,[0,1,5,6,7],[],[],[],[]⟩,⟨5,[0,1,5,6,7],[],[],[],[]⟩,⟨9,[4],[],[],[⟨false,5,none,0,0,false⟩],[]⟩]
noncomputable def F106:IFn:=⟨2,37,(bodyF (compFn Tryz.prog h106 Tryz.f77)),[⟨4,none⟩]⟩
theorem is106:compFn Tryz.prog h106 Tryz.f77=some F106:=by kernel_rfl
noncomputable def h107:List RH:=[⟨0,[0,1],[],[],[],[]⟩,⟨1,[0,1,13],[],[],[],[]⟩,⟨2,[4,5],[],[],[],[]⟩,⟨3,[0,1,6],[],[],[],[⟨true,6,none,63,1,true⟩]⟩,⟨4,[0,1,6,7],[],[],[],[]⟩,⟨5,[0,1,6,7,8],[],[],[],[]⟩,⟨6,[0,1,6,7,8,17],[],[],[],[]⟩,⟨8,[0,1,6,8,9],[],[],[],[]⟩,⟨9,[0,1,6,8,9],[],[4,5],[],[]⟩,⟨10,[0,1,6,7,8],[],[],[],[]⟩,⟨7,[0,1,6,7,8],[],[],[],[]⟩,⟨11,[4,5],[],[],[⟨false,6,none,0,0,false⟩],[]⟩]
noncomputable def F107:IFn:=⟨2,41,(bodyF (compFn Tryz.prog h107 Tryz.f81)),[⟨4,none⟩,⟨5,none⟩]⟩
theorem is107:compFn Tryz.prog h107 Tryz.f81=some F107:=by kernel_rfl
noncomputable def h108:List RH:=[⟨0,[2,3,4],[],[],[],[]⟩,⟨1,[4],[],[],[⟨false,3,(some 1),0,0,false⟩,⟨false,3,(some 2),0,0,false⟩,⟨false,2,(some 1),0,0,false⟩,⟨false,2,(some 2),0,0,false⟩],[]⟩]
noncomputable def F108:IFn:=⟨2,9,(bodyF (compFn Tryz.prog h108 Tryz.f50)),[⟨4,(some (some 3))⟩]⟩
theorem is108:compFn Tryz.prog h108 Tryz.f50=some F108:=by kernel_rfl
noncomputable def h109:List RH:=[⟨0,[1,2],[],[],[],[]⟩,⟨1,[1,2,6],[],[],[],[⟨true,6,none,66,8,true⟩]⟩,⟨2,[1,2,6,7],[],[],[],[]⟩,⟨3,[1,2,6,7,11],[],[],[],[]⟩,⟨5,[1,2,6,7,44],[],[],[],[]⟩,⟨6,[4,5],[],[],[],[]⟩,⟨7,[1,2,6,7],[],[9,10],[],[]⟩,⟨4,[1,2,6,7],[],[],[],[]⟩,⟨8,[4,5],[],[],[],[]⟩]
noncomputable def F109:IFn:=⟨2,57,(bodyF (compFn Tryz.prog h109 Tryz.f48)),[⟨4,none⟩,⟨5,none⟩]⟩
theorem is109:compFn Tryz.prog h109 Tryz.f48=some F109:=by kernel_rfl
noncomputable def h110:List RH:=[⟨0,[1,3,5],[],[],[],[]⟩,⟨1,[1,3,5,8],[],[],[],[]⟩,⟨2,[1,3,5,8,13],[],[],[],[]⟩,⟨3,[20],[],[],[],[]⟩,⟨4,[6,7],[],[],[],[]⟩,⟨5,[6,7],[],[],[],[]⟩,⟨6,[1,3,5,8,21],[],[],[],[]⟩,⟨7,[6,7],[],[],[],[]⟩,⟨8,[3,5,9],[],[],[],[]⟩,⟨9,[3,5,9,67],[],[],[],[]⟩,⟨10,[6,7],[],[],[],[]⟩,⟨11,[6,7],[],[],[],[]⟩]
noncomputable def F110:IFn:=⟨3,80,(bodyF (compFn Tryz.prog h110 Tryz.f72)),[⟨6,none⟩,⟨7,none⟩]⟩
theorem is110:compFn Tryz.prog h110 Tryz.f72=some F110:=by kernel_rfl
noncomputable def h113:List RH:=[⟨0,[1],[],[],[],[]⟩,⟨1,[1,3],[],[1],[],[⟨true,3,(some 20),66,8,true⟩,⟨true,3,(some 21),66,8,true⟩,⟨true,3,(some 22),66,8,true⟩,⟨true,3,(some 23),66,8,true⟩,⟨true,3,(some 24),66,8,true⟩,⟨true,3,(some 25),66,8,true⟩,⟨true,3,(some 26),66,8,true⟩,⟨true,3,(some 27),66,8,true⟩]⟩,⟨2,[3,11,12,13],[],[],[],[]⟩,⟨3,[3,11,12,13,14],[],[],[],[]⟩,⟨4,[3,5,11,12,13],[],[],[],[]⟩,⟨5,[3,11,12,13],[],[12],[],[]⟩,⟨6,[3,11,12,13],[],[],[],[]⟩,⟨7,[2],[],[],[],[]⟩]
noncomputable def F113:IFn:=⟨1,35,(bodyF (compFn Tryz.prog h113 Tryz.f82)),[⟨2,none⟩]⟩
theorem is113:compFn Tryz.prog h113 Tryz.f82=some F113:=by kernel_rfl
noncomputable def h114:List RH:=[⟨0,[0,1,4],[],[],[],[]⟩,⟨1,[4],[],[],[],[]⟩]
noncomputable def F114:IFn:=⟨2,17,(bodyF (compFn Tryz.prog h114 Tryz.f84)),[⟨4,(some (some 13))⟩]⟩
theorem is114:compFn Tryz.prog h114 Tryz.f84=some F114:=by kernel_rfl
noncomputable def h115:List RH:=[⟨0,[0,3],[],[],[],[]⟩,⟨1,[0,3,16],[],[],[],[]⟩,⟨2,[4],[],[],[],[]⟩,⟨3,[0,3,5,6],[],[],[],[]⟩,⟨4,[0,3,5,26],[],[],[],[]⟩,⟨5,[4],[],[],[],[]⟩,⟨6,[0,3,7],[],[],[],[]⟩,⟨7,[0,3,7,33],[],[],[],[]⟩,⟨8,[0,3,7],[],[],[],[]⟩,⟨9,[0,3,7,8],[],[],[],[]⟩,⟨10,[0,3,7,8],[],[],[],[]⟩,⟨11,[0,3,7,9],[],[2],[],[]⟩,⟨12,[0,3,9,51,52,53],[],[],[],[]⟩,⟨13,[0,3,9,51,52,53,54],[],[],[],[]⟩,⟨14,[0,3,9,11,51,52,53],[],[],[],[]⟩,⟨15,[0,3,9,11,12,13,51,52,53],[],[3],[],[]⟩,⟨16,[0,3,9,11,12,51,52,53,64],[],[],[],[]⟩,⟨17,[0,3,9,51,52,53],[],[5],[],[]⟩,⟨18,[0,3,9,51,52,53],[],[],[],[]⟩,⟨19,[9],[],[],[],[]⟩,⟨20,[4],[],[],[],[]⟩]
noncomputable def F115:IFn:=⟨2,81,(bodyF (compFn Tryz.prog h115 Tryz.f83)),[⟨4,none⟩]⟩
theorem is115:compFn Tryz.prog h115 Tryz.f83=some F115:=by kernel_rfl
noncomputable def h116:List RH:=[⟨0,[0,4,5,6],[],[],[],[]⟩,⟨1,[4,5,6,8],[],[2],[],[]⟩,⟨2,[4,5,6,8,24],[],[],[],[]⟩,⟨3,[6,7],[],[],[],[]⟩,⟨4,[6,7],[],[],[],[]⟩]
noncomputable def F116:IFn:=⟨3,42,(bodyF (compFn Tryz.prog h116 Tryz.f94)),[⟨6,(some (some 13))⟩,⟨7,none⟩]⟩
theorem is116:compFn Tryz.prog h116 Tryz.f94=some F116:=by kernel_rfl
noncomputable def h118:List RH:=[⟨0,[1],[],[],[],[]⟩,⟨1,[1,3],[],[],[],[]⟩,⟨2,[1,3,14],[],[],[],[]⟩,⟨3,[2],[],[],[],[]⟩,⟨4,[1,16],[],[],[],[]⟩,⟨5,[1,16,17],[],[],[],[]⟩,⟨6,[1,4,16],[],[],[],[]⟩,⟨7,[1,4,5,6,16],[],[],[],[]⟩,⟨8,[1,16,60],[],[],[],[]⟩,⟨9,[2],[],[],[],[]⟩,⟨10,[1,16],[],[],[],[]⟩,⟨11,[1,73],[],[],[],[]⟩,⟨12,[2],[],[],[],[]⟩,⟨13,[76,77,78],[],[],[],[]⟩,⟨14,[76,77,78,79],[],[],[],[]⟩,⟨15,[8,76,77,78],[],[],[],[]⟩,⟨16,[76,77,78,87],[],[],[],[]⟩,⟨17,[2],[],[],[],[]⟩,⟨18,[76,77,78],[],[],[],[]⟩,⟨19,[2],[],[],[],[]⟩]
noncomputable def F118:IFn:=⟨1,89,(bodyF (compFn Tryz.prog h118 Tryz.f63)),[⟨2,none⟩]⟩
theorem is118:compFn Tryz.prog h118 Tryz.f63=some F118:=by kernel_rfl
noncomputable def h119:List RH:=[⟨0,[2,3],[],[],[],[]⟩,⟨1,[2,3,5],[],[],[],[]⟩,⟨2,[2,3,5,13],[],[],[],[]⟩,⟨3,[4],[],[],[],[]⟩,⟨4,[2,3,15],[],[],[],[]⟩,⟨5,[4],[],[],[],[]⟩,⟨6,[20],[],[2],[],[]⟩,⟨7,[4],[],[],[],[]⟩,⟨8,[4],[],[],[],[]⟩]
noncomputable def F119:IFn:=⟨2,26,(bodyF (compFn Tryz.prog h119 Tryz.f64)),[⟨4,none⟩]⟩
theorem is119:compFn Tryz.prog h119 Tryz.f64=some F119:=by kernel_rfl
noncomputable def h121:List RH:=[⟨0,[1],[],[],[],[]⟩,⟨1,[1,4],[],[],[],[]⟩,⟨2,[1,4,11],[],[],[],[]⟩,⟨3,[2,3],[],[],[],[]⟩,⟨4,[1,5],[],[1],[],[]⟩,⟨5,[1,5,6],[],[],[],[⟨true,6,none,2,1,true⟩]⟩,⟨6,[5,6,18,19],[],[],[],[]⟩,⟨7,[5,6,18,19,20],[],[],[],[]⟩,⟨8,[5,6,7,18,19],[],[],[],[]⟩,⟨9,[5,6,18,19],[],[4,5,6,7],[],[]⟩,⟨10,[5,6,18,19],[],[],[],[]⟩,⟨11,[2,3],[],[],[],[]⟩]
noncomputable def F121:IFn:=⟨1,32,(bodyF (compFn Tryz.prog h121 Tryz.f53)),[⟨2,none⟩,⟨3,none⟩]⟩
theorem is121:compFn Tryz.prog h121 Tryz.f53=some F121:=by kernel_rfl
noncomputable def h122:List RH:=[⟨0,[0,2,9,10,11],[],[],[],[]⟩,⟨1,[0,2,9,10,11,12],[],[],[],[]⟩,⟨2,[0,2,4,5,9,10,11],[],[],[],[]⟩,⟨3,[0,2,4,6,9,10,11],[],[],[],[]⟩,⟨4,[0,2,4,6,9,10,11,22,23,24],[],[],[],[]⟩,⟨5,[0,2,4,6,9,10,11,22,23,24,25],[],[],[],[]⟩,⟨6,[0,2,4,6,7,8,9,10,11,22,23,24],[],[],[],[]⟩,⟨7,[0,2,4,6,7,8,9,10,11,22,23,24,29],[],[],[],[]⟩,⟨8,[0,2,4,6,9,10,11,22,23,24],[],[],[],[]⟩,⟨9,[0,2,4,6,7,9,10,11,22,23,24,42],[],[],[],[]⟩,⟨10,[0,2,4,6,9,10,11,22,23,24],[],[],[],[]⟩,⟨11,[0,2,4,6,9,10,11,22,23,24],[],[],[],[]⟩,⟨12,[0,2,9,10,11,57],[],[],[],[]⟩,⟨13,[0,2,9,10,11],[],[],[],[]⟩]
noncomputable def F122:IFn:=⟨3,59,(bodyF (compFn Tryz.prog h122 Tryz.f54)),[]⟩
theorem is122:compFn Tryz.prog h122 Tryz.f54=some F122:=by kernel_rfl
noncomputable def h123:List RH:=[⟨0,[1,2],[],[],[],[]⟩,⟨1,[6,7],[],[],[⟨false,2,(some 18),0,0,false⟩,⟨false,2,(some 19),0,0,false⟩,⟨false,1,none,0,0,false⟩],[]⟩,⟨2,[4,5],[],[],[],[]⟩]
noncomputable def F123:IFn:=⟨2,17,(bodyF (compFn Tryz.prog h123 Tryz.f59)),[⟨4,none⟩,⟨5,none⟩]⟩
theorem is123:compFn Tryz.prog h123 Tryz.f59=some F123:=by kernel_rfl
noncomputable def h124:List RH:=[⟨0,[0],[],[],[],[]⟩,⟨1,[2],[],[],[],[]⟩]
noncomputable def F124:IFn:=⟨1,15,(bodyF (compFn Tryz.prog h124 Tryz.f29)),[⟨2,none⟩]⟩
theorem is124:compFn Tryz.prog h124 Tryz.f29=some F124:=by kernel_rfl
noncomputable def h125:List RH:=[⟨0,[0,1],[],[],[],[]⟩,⟨1,[0,1,10],[],[],[],[]⟩,⟨2,[1,6],[],[],[⟨false,0,none,0,0,false⟩,⟨false,1,none,0,0,false⟩],[]⟩,⟨3,[0,6],[],[],[],[]⟩,⟨4,[0,1],[],[],[],[]⟩,⟨5,[4],[],[],[⟨false,0,none,0,0,false⟩],[]⟩]
noncomputable def F125:IFn:=⟨2,22,(bodyF (compFn Tryz.prog h125 Tryz.f30)),[⟨4,none⟩]⟩
theorem is125:compFn Tryz.prog h125 Tryz.f30=some F125:=by kernel_rfl
noncomputable def h126:List RH:=[⟨0,[0,1,2,6],[],[],[],[]⟩,⟨1,[6,7],[],[],[⟨false,0,none,0,0,false⟩,⟨false,1,none,0,0,false⟩,⟨false,2,none,0,0,false⟩],[]⟩,⟨2,[6],[],[],[],[]⟩]
noncomputable def F126:IFn:=⟨3,17,(bodyF (compFn Tryz.prog h126 Tryz.f44)),[⟨6,(some (some 3))⟩]⟩
theorem is126:compFn Tryz.prog h126 Tryz.f44=some F126:=by kernel_rfl
noncomputable def h127:List RH:=[⟨0,[0],[],[],[],[]⟩,⟨1,[0,4],[],[],[],[]⟩,⟨2,[2],[],[],[],[]⟩,⟨3,[2],[],[],[],[]⟩]
noncomputable def F127:IFn:=⟨1,14,(bodyF (compFn Tryz.prog h127 Tryz.f45)),[⟨2,none⟩]⟩
theorem is127:compFn Tryz.prog h127 Tryz.f45=some F127:=by kernel_rfl
noncomputable def h128:List RH:=[⟨0,[0],[],[],[],[]⟩,⟨1,[2],[],[5],[],[]⟩]
noncomputable def F128:IFn:=⟨1,10,(bodyF (compFn Tryz.prog h128 Tryz.f46)),[⟨2,none⟩]⟩
theorem is128:compFn Tryz.prog h128 Tryz.f46=some F128:=by kernel_rfl
noncomputable def h129:List RH:=[⟨0,[2,3,4],[],[],[],[]⟩,⟨1,[2,3,4,5,6],[],[],[⟨false,2,(some 1),0,0,false⟩,⟨false,2,(some 2),0,0,false⟩,⟨false,3,(some 1),0,0,false⟩,⟨false,3,(some 2),0,0,false⟩],[]⟩,⟨2,[2,3,4,5,6,7],[],[],[⟨false,2,(some 2),0,0,false⟩,⟨false,3,(some 2),0,0,false⟩],[]⟩,⟨3,[2,3,4,5,6,7,27],[],[],[],[]⟩,⟨4,[4],[],[],[⟨false,5,none,0,0,false⟩,⟨false,6,none,0,0,false⟩,⟨false,7,none,0,0,false⟩],[]⟩,⟨5,[2,3,4,5,6,7,8,9],[],[],[⟨false,5,none,0,0,false⟩,⟨false,6,none,0,0,false⟩],[]⟩,⟨6,[2,3,4,5,6,7,8,41],[],[],[],[]⟩,⟨7,[4],[],[],[⟨false,8,none,0,0,false⟩,⟨false,7,none,0,0,false⟩],[]⟩,⟨8,[3,4,7,10],[],[],[⟨false,6,none,0,0,false⟩,⟨false,5,none,0,0,false⟩],[]⟩,⟨9,[4],[],[],[⟨false,10,none,0,0,false⟩,⟨false,7,none,0,0,false⟩],[]⟩]
noncomputable def F129:IFn:=⟨2,58,(bodyF (compFn Tryz.prog h129 Tryz.f55)),[⟨4,(some (some 3))⟩]⟩
theorem is129:compFn Tryz.prog h129 Tryz.f55=some F129:=by kernel_rfl
noncomputable def h130:List RH:=[⟨0,[1,2],[],[],[],[]⟩,⟨1,[2],[],[],[⟨false,1,(some 1),0,0,false⟩,⟨false,1,(some 2),0,0,false⟩],[]⟩]
noncomputable def F130:IFn:=⟨1,11,(bodyF (compFn Tryz.prog h130 Tryz.f56)),[⟨2,(some (some 3))⟩]⟩
theorem is130:compFn Tryz.prog h130 Tryz.f56=some F130:=by kernel_rfl
noncomputable def h131:List RH:=[⟨0,[2,3],[],[],[],[]⟩,⟨1,[4,5],[],[],[⟨false,2,(some 1),0,0,false⟩,⟨false,3,(some 2),0,0,false⟩,⟨false,3,(some 1),0,0,false⟩,⟨false,2,(some 2),0,0,false⟩],[]⟩]
noncomputable def F131:IFn:=⟨2,16,(bodyF (compFn Tryz.prog h131 Tryz.f42)),[⟨4,none⟩,⟨5,none⟩]⟩
theorem is131:compFn Tryz.prog h131 Tryz.f42=some F131:=by kernel_rfl
noncomputable def h132:List RH:=[⟨0,[0,1],[],[],[],[]⟩,⟨1,[0,1],[],[],[],[]⟩,⟨2,[0,1,15],[],[],[],[]⟩,⟨3,[20],[],[],[],[]⟩,⟨4,[4],[],[],[],[]⟩,⟨5,[4],[],[],[],[]⟩,⟨6,[0,1,22,23],[],[],[],[]⟩,⟨7,[0,1,22,23,24],[],[],[],[]⟩,⟨8,[0,1,5,22,23],[],[],[],[]⟩,⟨9,[0,1,6,22,23],[],[],[],[]⟩,⟨10,[0,1,6,22,23,39],[],[],[],[]⟩,⟨11,[4],[],[],[],[]⟩,⟨12,[0,1,22,23,48],[],[],[],[]⟩,⟨13,[4],[],[],[],[]⟩,⟨14,[0,1,22,23],[],[],[],[]⟩,⟨15,[4],[],[],[],[]⟩]
noncomputable def F132:IFn:=⟨2,50,(bodyF (compFn Tryz.prog h132 Tryz.f43)),[⟨4,none⟩]⟩
theorem is132:compFn Tryz.prog h132 Tryz.f43=some F132:=by kernel_rfl
noncomputable def h133:List RH:=[⟨0,[1,2],[],[],[],[]⟩,⟨1,[1,2,6],[],[],[],[⟨true,6,none,66,8,true⟩]⟩,⟨2,[1,2,6,7],[],[],[],[]⟩,⟨3,[2,6,7,10,11,12],[],[],[],[]⟩,⟨4,[2,6,7,10,11,12,13],[],[],[],[]⟩,⟨5,[2,6,7,9,10,11,12],[],[],[],[]⟩,⟨6,[2,6,9,10,11,12,25],[],[],[],[]⟩,⟨7,[4,5],[],[],[],[]⟩,⟨8,[2,6,7,9,10,11,12],[],[],[],[]⟩,⟨9,[2,6,7,10,11,12],[],[6,7],[],[]⟩,⟨10,[2,6,7,10,11,12],[],[],[],[]⟩,⟨11,[4,5],[],[],[],[]⟩]
noncomputable def F133:IFn:=⟨2,37,(bodyF (compFn Tryz.prog h133 Tryz.f40)),[⟨4,none⟩,⟨5,none⟩]⟩
theorem is133:compFn Tryz.prog h133 Tryz.f40=some F133:=by kernel_rfl
noncomputable def h134:List RH:=[⟨0,[1,2],[],[],[],[]⟩,⟨1,[1,2,5],[],[],[],[]⟩,⟨2,[1,2,5,11,12],[],[],[],[]⟩,⟨3,[1,2,5,11,12,13],[],[],[],[]⟩,⟨4,[1,2,5,6,11,12],[],[],[],[]⟩,⟨5,[1,2,5,6,7,11,12],[],[],[],[]⟩,⟨6,[1,2,5,6,7,11,12,15,16,17],[],[],[],[]⟩,⟨7,[1,2,5,6,7,11,12,15,16,17,18],[],[],[],[]⟩,⟨8,[1,2,5,6,7,9,11,12,15,16,17],[],[],[],[]⟩,⟨9,[1,2,5,6,7,11,12,15,16,17],[],[],[],[]⟩,⟨10,[1,2,5,6,7,11,12,15,16,17],[],[],[],[]⟩,⟨11,[1,2,5,11,12,33],[],[],[],[]⟩,⟨12,[4],[],[],[],[]⟩,⟨13,[1,2,5,11,12],[],[],[],[]⟩,⟨14,[4],[],[],[],[]⟩]
noncomputable def F134:IFn:=⟨2,35,(bodyF (compFn Tryz.prog h134 Tryz.f41)),[⟨4,none⟩]⟩
theorem is134:compFn Tryz.prog h134 Tryz.f41=some F134:=by kernel_rfl
noncomputable def h135:List RH:=[⟨0,[0],[],[],[],[]⟩,⟨1,[0,4],[],[],[],[]⟩,⟨2,[2],[],[],[],[]⟩,⟨3,[2],[],[],[],[]⟩]
noncomputable def F135:IFn:=⟨1,14,(bodyF (compFn Tryz.prog h135 Tryz.f58)),[⟨2,none⟩]⟩
theorem is135:compFn Tryz.prog h135 Tryz.f58=some F135:=by kernel_rfl
noncomputable def h136:List RH:=[⟨0,[0,1],[],[],[],[]⟩,⟨1,[0,1,5],[],[],[],[⟨true,5,none,63,1,true⟩]⟩,⟨2,[0,1,5,6],[],[],[],[]⟩,⟨3,[0,1,5,6,9],[],[],[],[]⟩,⟨5,[0,1,5,6],[],[1,2],[],[]⟩,⟨4,[0,1,5,6],[],[],[],[]⟩,⟨6,[4],[],[2,3],[],[]⟩]
noncomputable def F136:IFn:=⟨2,19,(bodyF (compFn Tryz.prog h136 Tryz.f99)),[⟨4,none⟩]⟩
theorem is136:compFn Tryz.prog h136 Tryz.f99=some F136:=by kernel_rfl
noncomputable def h137:List RH:=[⟨0,[0,1],[],[],[],[]⟩,⟨1,[0,1,5],[],[],[],[⟨true,5,none,63,1,true⟩]⟩,⟨2,[0,1,5,6],[],[],[],[]⟩,⟨3,[0,1,5,6,7],[],[],[],[]⟩,⟨4,[0,1,5,6,7,12],[],[],[],[]⟩,⟨6,[0,1,5,7,8],[],[],[],[]⟩,⟨7,[0,1,5,7,8],[],[4,5],[],[]⟩,⟨8,[0,1,5,6,7],[],[],[],[]⟩,⟨5,[0,1,5,6,7],[],[],[],[]⟩,⟨9,[4],[],[],[⟨false,5,none,0,0,false⟩],[]⟩]
noncomputable def F137:IFn:=⟨2,32,(bodyF (compFn Tryz.prog h137 Tryz.f100)),[⟨4,none⟩]⟩
theorem is137:compFn Tryz.prog h137 Tryz.f100=some F137:=by kernel_rfl
noncomputable def h138:List RH:=[⟨0,[0,1],[],[],[],[]⟩,⟨1,[0,1,13],[],[],[],[]⟩,⟨2,[4,5,6],[],[],[],[]⟩,⟨3,[0,1,7],[],[],[],[]⟩,⟨4,[0,1,7,8],[],[],[],[⟨true,8,none,63,1,true⟩,⟨false,8,none,0,0,false⟩]⟩,⟨5,[0,1,7,8,9],[],[],[⟨false,0,none,0,0,false⟩,⟨false,7,none,0,0,false⟩],[]⟩,⟨6,[0,1,8,9,10],[],[],[],[]⟩,⟨7,[0,1,8,9,10,28],[],[],[],[]⟩,⟨9,[0,1,8,9,10],[],[],[],[]⟩,⟨10,[0,1,8,9,10],[],[],[],[]⟩,⟨11,[0,1,8,9,10,45],[],[],[],[]⟩,⟨12,[0,1,8,9,10],[],[],[⟨false,1,none,0,0,false⟩],[]⟩,⟨13,[0,1,8,9,10],[],[],[],[]⟩,⟨8,[0,1,8,9,10],[],[],[],[]⟩,⟨14,[4,5,6],[],[],[],[]⟩]
noncomputable def F138:IFn:=⟨2,57,(bodyF (compFn Tryz.prog h138 Tryz.f51)),[⟨4,none⟩,⟨5,none⟩,⟨6,none⟩]⟩
theorem is138:compFn Tryz.prog h138 Tryz.f51=some F138:=by kernel_rfl
noncomputable def h139:List RH:=[⟨0,[0,1],[],[],[],[]⟩,⟨1,[0,1,8],[],[],[],[]⟩,⟨2,[4],[],[],[],[]⟩,⟨3,[4],[],[],[],[]⟩]
noncomputable def F139:IFn:=⟨2,14,(bodyF (compFn Tryz.prog h139 Tryz.f93)),[⟨4,none⟩]⟩
theorem is139:compFn Tryz.prog h139 Tryz.f93=some F139:=by kernel_rfl
noncomputable def h140:List RH:=[⟨0,[0],[],[],[],[]⟩,⟨1,[0,14],[],[],[],[]⟩,⟨2,[0],[],[],[],[]⟩,⟨3,[2],[],[2],[],[⟨false,2,none,0,0,false⟩]⟩]
noncomputable def F140:IFn:=⟨1,23,(bodyF (compFn Tryz.prog h140 Tryz.f52)),[⟨2,none⟩]⟩
theorem is140:compFn Tryz.prog h140 Tryz.f52=some F140:=by kernel_rfl
noncomputable def h141:List RH:=[⟨0,[0,1],[],[],[],[]⟩,⟨1,[0,1,5],[],[],[],[]⟩,⟨2,[0,1,5,13],[],[],[],[]⟩,⟨4,[0,1,5,22],[],[],[],[]⟩,⟨5,[4],[],[],[],[]⟩,⟨6,[0,1,5,29],[],[],[],[]⟩,⟨7,[4],[],[],[],[]⟩,⟨3,[0,1,5],[],[],[],[]⟩,⟨8,[4],[],[],[],[]⟩]
noncomputable def F141:IFn:=⟨2,30,(bodyF (compFn Tryz.prog h141 Tryz.f80)),[⟨4,none⟩]⟩
theorem is141:compFn Tryz.prog h141 Tryz.f80=some F141:=by kernel_rfl
noncomputable def h142:List RH:=[⟨0,[1,2],[],[],[],[]⟩,⟨1,[2],[],[],[],[]⟩]
noncomputable def F142:IFn:=⟨1,17,(bodyF (compFn Tryz.prog h142 Tryz.f74)),[⟨2,(some (some 3))⟩]⟩
theorem is142:compFn Tryz.prog h142 Tryz.f74=some F142:=by kernel_rfl
noncomputable def h143:List RH:=[⟨0,[0,3,4],[],[],[],[]⟩,⟨1,[0,3,4,5],[],[],[],[]⟩,⟨2,[0,3,4,5,9],[],[],[],[]⟩,⟨3,[0,3,4,5,9,10],[],[],[],[]⟩,⟨4,[0,3,4,5,6,9],[],[],[],[]⟩,⟨5,[0,3,4,5,6,9,38],[],[],[],[]⟩,⟨6,[0,3,4,5,9],[],[],[],[]⟩,⟨7,[0,3,4,5,9],[],[],[],[]⟩,⟨8,[4],[],[],[],[]⟩]
noncomputable def F143:IFn:=⟨2,43,(bodyF (compFn Tryz.prog h143 Tryz.f101)),[⟨4,(some (some 6))⟩]⟩
theorem is143:compFn Tryz.prog h143 Tryz.f101=some F143:=by kernel_rfl
noncomputable def h144:List RH:=[⟨0,[2,3],[],[],[],[]⟩,⟨1,[4],[],[],[],[]⟩]
noncomputable def F144:IFn:=⟨2,10,(bodyF (compFn Tryz.prog h144 Tryz.f102)),[⟨4,none⟩]⟩
theorem is144:compFn Tryz.prog h144 Tryz.f102=some F144:=by kernel_rfl
noncomputable def h145:List RH:=[⟨0,[2,3,4],[],[],[],[]⟩,⟨1,[2,3,4,6],[],[],[],[]⟩,⟨2,[2,3,4,6,7],[],[],[],[]⟩,⟨3,[2,3,4,5,6],[],[],[],[]⟩,⟨4,[2,3,4,6],[],[],[],[]⟩,⟨5,[2,3,4,6],[],[],[],[]⟩,⟨6,[4],[],[],[],[]⟩]
noncomputable def F145:IFn:=⟨2,19,(bodyF (compFn Tryz.prog h145 Tryz.f103)),[⟨4,(some (some 6))⟩]⟩
theorem is145:compFn Tryz.prog h145 Tryz.f103=some F145:=by kernel_rfl
noncomputable def h146:List RH:=[⟨0,[1],[],[],[],[]⟩,⟨1,[5,6],[],[],[],[]⟩,⟨2,[5,6,7],[],[],[],[]⟩,⟨3,[4,5,6],[],[],[],[]⟩,⟨4,[5,6,14],[],[],[],[]⟩,⟨5,[2],[],[],[],[]⟩,⟨6,[5,6],[],[],[],[]⟩,⟨7,[2],[],[],[],[]⟩]
noncomputable def F146:IFn:=⟨1,16,(bodyF (compFn Tryz.prog h146 Tryz.f88)),[⟨2,none⟩]⟩
theorem is146:compFn Tryz.prog h146 Tryz.f88=some F146:=by kernel_rfl
noncomputable def h147:List RH:=[⟨0,[0,3],[],[],[],[]⟩,⟨1,[3,5],[],[],[],[]⟩,⟨2,[4],[],[],[],[]⟩,⟨3,[3,15],[],[],[],[]⟩,⟨4,[4],[],[],[],[]⟩,⟨5,[4],[],[],[],[]⟩]
noncomputable def F147:IFn:=⟨2,27,(bodyF (compFn Tryz.prog h147 Tryz.f89)),[⟨4,none⟩]⟩
theorem is147:compFn Tryz.prog h147 Tryz.f89=some F147:=by kernel_rfl
noncomputable def h150:List RH:=[⟨0,[1,2,4],[],[],[],[]⟩,⟨1,[1,2,4,6],[],[],[],[]⟩,⟨2,[1,2,4,6,11],[],[],[],[]⟩,⟨3,[4,5],[],[],[],[]⟩,⟨4,[1,2,4,23],[],[],[],[]⟩,⟨5,[4,5],[],[],[],[]⟩,⟨6,[4,7],[],[],[⟨false,2,(some 18),0,0,false⟩,⟨false,2,(some 19),0,0,false⟩,⟨false,1,none,0,0,false⟩],[]⟩,⟨7,[4,5],[],[],[],[]⟩]
noncomputable def F150:IFn:=⟨2,34,(bodyF (compFn Tryz.prog h150 Tryz.f87)),[⟨4,(some (some 2))⟩,⟨5,none⟩]⟩
theorem is150:compFn Tryz.prog h150 Tryz.f87=some F150:=by kernel_rfl
noncomputable def h151:List RH:=[⟨0,[0,1,2,6],[],[],[],[]⟩,⟨1,[0,1,2,6,17],[],[],[],[]⟩,⟨2,[6,7],[],[],[],[]⟩,⟨3,[0,1,2,6,8],[],[],[⟨false,1,none,0,0,false⟩,⟨false,2,none,0,0,false⟩],[]⟩,⟨4,[0,2,6,8,9,11],[],[],[⟨false,1,none,0,0,false⟩,⟨false,8,none,0,0,false⟩],[]⟩,⟨5,[0,6,9,11,12,14],[],[],[⟨false,2,none,0,0,false⟩,⟨false,8,none,0,0,false⟩],[]⟩,⟨6,[0,6,9,12,41],[],[],[],[]⟩,⟨7,[6,7],[],[],[],[]⟩,⟨8,[6,7],[],[],[],[]⟩]
noncomputable def F151:IFn:=⟨3,52,(bodyF (compFn Tryz.prog h151 Tryz.f70)),[⟨6,(some (some 3))⟩,⟨7,none⟩]⟩
theorem is151:compFn Tryz.prog h151 Tryz.f70=some F151:=by kernel_rfl
noncomputable def h152:List RH:=[⟨0,[0],[],[],[],[]⟩,⟨1,[0,3],[],[],[],[]⟩,⟨2,[0,3,15],[],[],[],[]⟩,⟨3,[0,3],[],[],[],[]⟩,⟨4,[2],[],[],[],[]⟩]
noncomputable def F152:IFn:=⟨1,22,(bodyF (compFn Tryz.prog h152 Tryz.f69)),[⟨2,none⟩]⟩
theorem is152:compFn Tryz.prog h152 Tryz.f69=some F152:=by kernel_rfl
noncomputable def h153:List RH:=[⟨0,[0,1],[],[],[],[]⟩,⟨1,[0,1,5],[],[5],[],[]⟩,⟨2,[0,1,5,17,18],[],[],[],[]⟩,⟨3,[0,1,5,17,18,19],[],[],[],[]⟩,⟨4,[0,1,5,6,17,18],[],[],[],[]⟩,⟨5,[0,1,5,6,7,17,18],[],[],[],[]⟩,⟨6,[0,1,5,6,7,17,18,22,23],[],[],[],[]⟩,⟨7,[0,1,5,6,7,17,18,22,23,24],[],[],[],[]⟩,⟨8,[0,1,5,6,7,8,17,18,22,23],[],[],[],[]⟩,⟨9,[0,1,5,6,8,9,17,18,22,23],[],[],[],[]⟩,⟨10,[0,1,5,6,7,17,18,22,23],[],[],[],[]⟩,⟨11,[0,1,5,6,7,17,18,22,23],[],[],[],[]⟩,⟨12,[0,1,5,17,18],[],[],[],[]⟩,⟨13,[0,1,5,17,18],[],[],[],[]⟩,⟨14,[4],[],[],[⟨false,5,none,0,0,false⟩],[]⟩]
noncomputable def F153:IFn:=⟨2,68,(bodyF (compFn Tryz.prog h153 Tryz.f68)),[⟨4,none⟩]⟩
theorem is153:compFn Tryz.prog h153 Tryz.f68=some F153:=by kernel_rfl
noncomputable def h154:List RH:=[⟨0,[0,1],[],[],[],[]⟩,⟨1,[0,1,13],[],[],[],[]⟩,⟨2,[0,1],[],[],[],[]⟩,⟨3,[0,1,5],[],[3],[],[]⟩,⟨4,[0,1,5,6],[],[],[],[]⟩,⟨5,[0,1,5,6,21,22],[],[],[],[]⟩,⟨6,[0,1,5,6,21,22,23],[],[],[],[]⟩,⟨7,[0,1,5,6,7,21,22],[],[],[],[]⟩,⟨8,[0,1,5,7,8,21,22],[],[],[],[]⟩,⟨9,[0,1,5,7,8,21,22,35],[],[],[],[]⟩,⟨10,[0,1,5,7,8,21,22],[],[],[],[]⟩,⟨11,[0,1,5,6,21,22],[],[],[],[]⟩,⟨12,[0,1,5,6,21,22],[],[],[],[]⟩,⟨13,[5],[],[],[],[]⟩,⟨14,[4],[],[],[⟨false,5,none,0,0,false⟩],[]⟩]
noncomputable def F154:IFn:=⟨2,59,(bodyF (compFn Tryz.prog h154 Tryz.f85)),[⟨4,none⟩]⟩
theorem is154:compFn Tryz.prog h154 Tryz.f85=some F154:=by kernel_rfl
noncomputable def h155:List RH:=[⟨0,[0,1],[],[],[],[]⟩,⟨1,[0,1],[],[],[],[]⟩,⟨2,[0,1,17],[],[],[],[]⟩,⟨3,[4,5],[],[],[],[]⟩,⟨4,[0,1,6],[],[2],[],[]⟩,⟨5,[0,1,6,7],[],[],[],[]⟩,⟨6,[0,1,6,7,22,23],[],[],[],[]⟩,⟨7,[0,1,6,7,22,23,24],[],[],[],[]⟩,⟨8,[0,1,6,7,8,22,23],[],[],[],[]⟩,⟨9,[0,1,6,8,9,22,23],[],[],[],[]⟩,⟨10,[0,1,6,8,9,22,23,36],[],[],[],[]⟩,⟨11,[0,1,6,8,9,22,23],[],[],[],[]⟩,⟨12,[0,1,6,7,22,23],[],[],[],[]⟩,⟨13,[0,1,6,7,22,23],[],[],[],[]⟩,⟨14,[4,5],[],[],[⟨false,6,none,0,0,false⟩],[]⟩]
noncomputable def F155:IFn:=⟨2,54,(bodyF (compFn Tryz.prog h155 Tryz.f86)),[⟨4,none⟩,⟨5,none⟩]⟩
theorem is155:compFn Tryz.prog h155 Tryz.f86=some F155:=by kernel_rfl
noncomputable def h156:List RH:=[⟨0,[1,3,5],[],[],[],[]⟩,⟨1,[1,3,5,7],[],[],[],[]⟩,⟨6,[3,5,7,41],[],[],[],[]⟩,⟨7,[6],[],[],[],[]⟩,⟨8,[3,5,7,50],[],[],[],[]⟩,⟨9,[6],[],[],[],[]⟩,⟨10,[3,5,7,53],[],[],[],[]⟩,⟨11,[6],[],[],[],[]⟩,⟨2,[3,5,7],[],[],[],[]⟩,⟨3,[5,7,36],[],[],[],[]⟩,⟨4,[6],[],[],[],[]⟩,⟨5,[6],[],[],[],[]⟩]
noncomputable def F156:IFn:=⟨3,60,(bodyF (compFn Tryz.prog h156 Tryz.f65)),[⟨6,none⟩]⟩
theorem is156:compFn Tryz.prog h156 Tryz.f65=some F156:=by kernel_rfl
noncomputable def h157:List RH:=[⟨0,[1],[],[],[],[]⟩,⟨1,[2],[],[],[],[]⟩]
noncomputable def F157:IFn:=⟨1,8,(bodyF (compFn Tryz.prog h157 Tryz.f66)),[⟨2,none⟩]⟩
theorem is157:compFn Tryz.prog h157 Tryz.f66=some F157:=by kernel_rfl
noncomputable def h158:List RH:=[⟨0,[1,2],[],[],[],[]⟩,⟨1,[2,5],[],[],[],[]⟩,⟨3,[2,5,18],[],[],[],[]⟩,⟨4,[4],[],[],[],[]⟩,⟨5,[2,5,21],[],[],[],[]⟩,⟨6,[4],[],[],[],[]⟩,⟨2,[4],[],[],[],[]⟩]
noncomputable def F158:IFn:=⟨2,29,(bodyF (compFn Tryz.prog h158 Tryz.f67)),[⟨4,none⟩]⟩
theorem is158:compFn Tryz.prog h158 Tryz.f67=some F158:=by kernel_rfl
noncomputable def h159:List RH:=[⟨0,[0],[],[],[],[]⟩,⟨1,[2],[],[6],[],[]⟩]
noncomputable def F159:IFn:=⟨1,11,(bodyF (compFn Tryz.prog h159 Tryz.f78)),[⟨2,none⟩]⟩
theorem is159:compFn Tryz.prog h159 Tryz.f78=some F159:=by kernel_rfl
noncomputable def h160:List RH:=[⟨0,[0],[],[],[],[]⟩,⟨1,[0,3],[],[],[],[]⟩,⟨2,[0,3,15],[],[],[],[]⟩,⟨3,[0,3],[],[],[],[]⟩,⟨4,[2],[],[],[],[]⟩]
noncomputable def F160:IFn:=⟨1,19,(bodyF (compFn Tryz.prog h160 Tryz.f75)),[⟨2,none⟩]⟩
theorem is160:compFn Tryz.prog h160 Tryz.f75=some F160:=by kernel_rfl
noncomputable def h161:List RH:=[⟨0,[0,1],[],[],[],[]⟩,⟨1,[0,1,5],[],[],[],[⟨true,5,none,63,1,true⟩]⟩,⟨2,[0,1,5,6],[],[],[],[]⟩,⟨3,[0,1,5,6,13],[],[],[],[]⟩,⟨5,[0,1,5,6,7],[],[],[],[]⟩,⟨6,[0,1,5,6],[],[8,9],[],[]⟩,⟨4,[0,1,5,6],[],[],[],[]⟩,⟨7,[4],[],[],[⟨false,5,none,0,0,false⟩],[]⟩]
noncomputable def F161:IFn:=⟨2,37,(bodyF (compFn Tryz.prog h161 Tryz.f76)),[⟨4,none⟩]⟩
theorem is161:compFn Tryz.prog h161 Tryz.f76=some F161:=by kernel_rfl
noncomputable def h162:List RH:=[⟨0,[0,1],[],[],[],[]⟩,⟨1,[4],[],[],[],[]⟩]
noncomputable def F162:IFn:=⟨2,14,(bodyF (compFn Tryz.prog h162 Tryz.f79)),[⟨4,none⟩]⟩
theorem is162:compFn Tryz.prog h162 Tryz.f79=some F162:=by kernel_rfl
noncomputable def h163:List RH:=[⟨0,[2,3,4],[],[],[],[]⟩,⟨1,[2,3,4,6],[],[],[],[]⟩,⟨2,[2,3,4,6,7],[],[],[],[]⟩,⟨3,[2,3,4,5,6],[],[],[],[]⟩,⟨4,[2,3,4,6],[],[],[],[]⟩,⟨5,[2,3,4,6],[],[],[],[]⟩,⟨6,[4],[],[],[],[]⟩]
noncomputable def F163:IFn:=⟨2,20,(bodyF (compFn Tryz.prog h163 Tryz.f104)),[⟨4,(some (some 6))⟩]⟩
theorem is163:compFn Tryz.prog h163 Tryz.f104=some F163:=by kernel_rfl
noncomputable def h164:List RH:=[⟨0,[1,2,3,4,6,11,12],[],[],[],[]⟩,⟨1,[1,2,3,4,6,11,12,19],[],[],[],[]⟩,⟨2,[3,4,11,12,23],[],[],[],[]⟩,⟨3,[12],[],[2],[],[]⟩,⟨4,[12],[],[],[],[]⟩,⟨5,[1,2,3,4,6,11,12,13],[],[],[],[]⟩,⟨6,[1,2,3,4,6,11,12,13,41],[],[],[],[]⟩,⟨7,[1,2,3,4,6,11,12,13,14],[],[2,4,5],[],[]⟩,⟨8,[1,2,3,4,6,11,12,13,14,51],[],[],[],[]⟩,⟨9,[1,2,3,4,6,11,12],[],[],[⟨false,6,(some 18),0,0,false⟩,⟨false,6,(some 19),0,0,false⟩,⟨false,1,none,0,0,false⟩,⟨false,14,none,0,0,false⟩,⟨false,11,(some 0),0,0,false⟩],[]⟩,⟨10,[12],[],[],[⟨false,6,(some 18),0,0,false⟩,⟨false,6,(some 19),0,0,false⟩,⟨false,1,none,0,0,false⟩,⟨false,3,none,0,0,false⟩,⟨false,4,none,0,0,false⟩,⟨false,11,(some 0),0,0,false⟩],[]⟩]
noncomputable def F164:IFn:=⟨6,71,(bodyF (compFn Tryz.prog h164 Tryz.f95)),[⟨12,(some (some 2))⟩]⟩
theorem is164:compFn Tryz.prog h164 Tryz.f95=some F164:=by kernel_rfl
noncomputable def h165:List RH:=[⟨0,[0,1],[],[],[],[]⟩,⟨1,[0,1],[],[],[],[]⟩,⟨2,[0,1,14],[],[],[],[]⟩,⟨3,[0,1,6,7],[],[],[⟨false,0,none,0,0,false⟩,⟨false,1,none,0,0,false⟩],[]⟩,⟨4,[0,1,6,23],[],[],[],[]⟩,⟨5,[0,1],[],[],[],[]⟩,⟨6,[4],[],[],[],[]⟩]
noncomputable def F165:IFn:=⟨2,27,(bodyF (compFn Tryz.prog h165 Tryz.f90)),[⟨4,none⟩]⟩
theorem is165:compFn Tryz.prog h165 Tryz.f90=some F165:=by kernel_rfl
noncomputable def h166:List RH:=[⟨0,[0,1],[],[],[],[]⟩,⟨1,[0,1],[],[],[],[]⟩,⟨2,[0,1,23],[],[],[],[]⟩,⟨3,[4,5,6],[],[],[],[]⟩,⟨4,[0,1,27],[],[],[],[]⟩,⟨5,[4,5,6],[],[],[⟨false,0,none,0,0,false⟩],[]⟩,⟨6,[0,1,32],[],[],[],[]⟩,⟨7,[7,8],[],[],[⟨false,0,none,0,0,false⟩],[]⟩,⟨8,[4,5,6],[],[],[],[]⟩,⟨9,[0,1,9],[],[],[],[]⟩,⟨10,[0,1,9,53],[],[],[],[]⟩,⟨11,[0,1,9],[],[],[],[]⟩,⟨12,[0,1,9,10],[],[2],[],[]⟩,⟨13,[0,1,9,10,11],[],[],[],[]⟩,⟨14,[9,10,11,12,13],[],[],[],[]⟩,⟨15,[4,9,10,11,12,13],[],[2],[],[]⟩,⟨16,[4,9,10,11,12,13,74,75],[],[],[],[]⟩,⟨17,[4,9,10,11,12,13,74,75,76],[],[],[],[]⟩,⟨18,[4,9,10,11,12,13,14,74,75],[],[],[],[]⟩,⟨19,[4,9,10,11,12,13,15,74,75],[],[],[],[]⟩,⟨20,[4,9,10,11,12,13,74,75],[],[14],[],[]⟩,⟨21,[4,9,10,11,12,13,74,75],[],[],[],[]⟩,⟨22,[4,5,9,10,12],[],[1],[],[]⟩,⟨23,[4,5,9,10,100,101],[],[],[],[]⟩,⟨24,[4,5,9,10,100,101,102],[],[],[],[]⟩,⟨25,[4,5,9,10,16,100,101],[],[],[],[]⟩,⟨26,[4,5,9,10,16,100,101],[],[],[],[]⟩,⟨27,[4,5,9,10,16,100,101,114],[],[],[],[]⟩,⟨28,[4,5,9,10,100,101],[],[],[],[]⟩,⟨29,[4,5,9,10,100,101],[],[],[],[]⟩,⟨30,[4,5,6],[],[],[⟨false,4,none,0,0,false⟩,⟨false,5,none,0,0,false⟩],[]⟩]
noncomputable def F166:IFn:=⟨2,134,(bodyF (compFn Tryz.prog h166 Tryz.f91)),[⟨4,none⟩,⟨5,none⟩,⟨6,none⟩]⟩
theorem is166:compFn Tryz.prog h166 Tryz.f91=some F166:=by kernel_rfl
noncomputable def h167:List RH:=[⟨0,[0,1],[],[],[],[]⟩,⟨1,[0,1,6],[],[2],[],[]⟩,⟨2,[0,1,6,7],[],[],[],[]⟩,⟨3,[0,1,6,7,15,16],[],[],[],[]⟩,⟨4,[0,1,6,7,15,16,17],[],[],[],[]⟩,⟨5,[0,1,6,7,8,15,16],[],[],[],[]⟩,⟨6,[0,1,6,7,9,15,16],[],[],[],[]⟩,⟨7,[0,1,6,9,10,15,16],[],[],[],[]⟩,⟨8,[0,1,6,7,15,16],[],[],[],[]⟩,⟨9,[0,1,6,7,15,16],[],[],[],[]⟩,⟨10,[4,5],[],[],[⟨false,6,none,0,0,false⟩],[]⟩]
noncomputable def F167:IFn:=⟨2,49,(bodyF (compFn Tryz.prog h167 Tryz.f96)),[⟨4,none⟩,⟨5,none⟩]⟩
theorem is167:compFn Tryz.prog h167 Tryz.f96=some F167:=by kernel_rfl
noncomputable def h168:List RH:=[⟨0,[0,1],[],[],[],[]⟩,⟨1,[0,1,5],[],[],[],[]⟩,⟨2,[0,1,5,13,14],[],[],[],[]⟩,⟨3,[0,1,5,13,14,15],[],[],[],[]⟩,⟨4,[0,1,5,6,13,14],[],[],[],[]⟩,⟨5,[0,1,5,6,7,13,14],[],[],[],[]⟩,⟨6,[0,1,5,6,7,13,14],[],[],[],[]⟩,⟨7,[0,1,5,13,14],[],[],[],[]⟩,⟨8,[0,1,5,13,14],[],[],[],[]⟩,⟨9,[4],[],[],[],[]⟩]
noncomputable def F168:IFn:=⟨2,41,(bodyF (compFn Tryz.prog h168 Tryz.f97)),[⟨4,none⟩]⟩
theorem is168:compFn Tryz.prog h168 Tryz.f97=some F168:=by kernel_rfl
noncomputable def h169:List RH:=[⟨0,[0,1],[],[],[],[]⟩,⟨1,[0,1,5],[],[],[],[]⟩,⟨2,[0,1,5,6],[],[],[],[]⟩,⟨3,[0,1,5,7,8],[],[],[],[]⟩,⟨4,[0,1,5,7,8,69],[],[],[],[]⟩,⟨5,[0,1,5,7,8],[],[],[],[]⟩,⟨6,[0,1,5,7,8],[],[],[],[]⟩,⟨7,[0,1,5,7,8,81],[],[],[],[]⟩,⟨8,[0,1,5,7,9,10],[],[],[],[]⟩,⟨9,[0,1,5,7,9,10,82,83],[],[],[],[]⟩,⟨10,[0,1,5,7,9,10,82,83,84],[],[],[],[]⟩,⟨11,[0,1,5,7,9,10,11,82,83],[],[],[],[]⟩,⟨12,[0,1,5,7,10,11,12,82,83],[],[],[],[]⟩,⟨13,[0,1,5,7,9,10,11,12,82,83],[],[],[],[]⟩,⟨14,[0,1,5,7,9,11,13,82,83],[],[],[],[]⟩,⟨15,[0,1,5,7,9,10,82,83],[],[],[],[]⟩,⟨16,[0,1,5,7,9,10,82,83],[],[],[],[]⟩,⟨17,[0,1,5,7,14],[],[],[],[]⟩,⟨18,[0,1,5,7,14],[],[],[],[]⟩,⟨19,[0,1,5,7,131],[],[],[],[]⟩,⟨20,[4],[],[],[],[]⟩,⟨21,[0,1,5,7,9],[],[],[],[]⟩,⟨22,[0,1,5,7,9,134,135],[],[],[],[]⟩,⟨23,[0,1,5,7,9,134,135,136],[],[],[],[]⟩,⟨24,[0,1,5,7,9,15,134,135],[],[],[],[]⟩,⟨25,[0,1,5,7,15,16,134,135],[],[],[],[]⟩,⟨26,[0,1,5,7,9,134,135],[],[],[],[]⟩,⟨27,[0,1,5,7,9,134,135],[],[],[],[]⟩,⟨28,[7],[],[],[],[]⟩,⟨29,[4],[],[],[],[]⟩]
noncomputable def F169:IFn:=⟨2,170,(bodyF (compFn Tryz.prog h169 Tryz.f98)),[⟨4,none⟩]⟩
theorem is169:compFn Tryz.prog h169 Tryz.f98=some F169:=by kernel_rfl
noncomputable def h300:List RH:=[⟨0,[2,3,4],[],[],[],[]⟩,⟨1,[2,3,4,14],[],[],[],[]⟩,⟨2,[6],[],[],[],[]⟩,⟨3,[6],[],[],[],[]⟩]
noncomputable def F300:IFn:=⟨3,39,(bodyF (compFn Tryz.prog h300 Tryz.f3)),[⟨6,none⟩]⟩
theorem is300:compFn Tryz.prog h300 Tryz.f3=some F300:=by kernel_rfl
noncomputable def h301:List RH:=[⟨0,[2,3,4],[],[],[],[]⟩,⟨1,[2,3,4,8,9],[],[],[⟨false,3,(some 18),0,0,false⟩,⟨false,3,(some 19),0,0,false⟩,⟨false,4,(some 0),0,0,false⟩,⟨false,2,none,0,0,false⟩],[]⟩,⟨2,[2,3,4,8,9,18],[],[],[],[]⟩,⟨3,[6],[],[],[],[]⟩,⟨4,[8,22],[],[],[],[]⟩,⟨5,[6],[],[],[],[]⟩,⟨6,[28],[],[],[],[]⟩,⟨7,[6],[],[],[],[]⟩,⟨8,[6],[],[],[],[]⟩]
noncomputable def F301:IFn:=⟨3,32,(bodyF (compFn Tryz.prog h301 Tryz.f8)),[⟨6,none⟩]⟩
theorem is301:compFn Tryz.prog h301 Tryz.f8=some F301:=by kernel_rfl
noncomputable def h302:List RH:=[⟨0,[2,3,4],[],[],[],[]⟩,⟨1,[2,3,4,21],[],[],[],[]⟩,⟨2,[6],[],[],[],[]⟩,⟨3,[2,7],[],[],[⟨false,3,(some 18),0,0,false⟩,⟨false,3,(some 19),0,0,false⟩,⟨false,4,(some 0),0,0,false⟩],[]⟩,⟨4,[2,7,8],[],[],[],[]⟩,⟨5,[2,7,8,28],[],[],[],[]⟩,⟨7,[2,7,8,49],[],[],[],[]⟩,⟨8,[6],[],[],[],[]⟩,⟨6,[2,7,8],[],[],[],[]⟩,⟨9,[6],[],[],[],[]⟩]
noncomputable def F302:IFn:=⟨3,50,(bodyF (compFn Tryz.prog h302 Tryz.f10)),[⟨6,none⟩]⟩
theorem is302:compFn Tryz.prog h302 Tryz.f10=some F302:=by kernel_rfl
end Go.Proofs.YtigbjjkijfkeeaaGreat.Ir
