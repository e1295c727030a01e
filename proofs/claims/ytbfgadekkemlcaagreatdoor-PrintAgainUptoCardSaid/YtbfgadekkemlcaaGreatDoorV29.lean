/- My texts for this claim, in one file: part 29. -/
import Derived.Test.YtbfgadekkemlcaaGreatDoorProg
import Derived.KernelRfl
import Derived.Test.YtbfgadekkemlcaaGreatDoorV28
set_option linter.unusedVariables false
set_option linter.defProp false
set_option maxRecDepth 20000
namespace Go.Proofs.YtbfgadekkemlcaaGreatDoor.K
open Go Go.Kx
def an3:Ann:=⟨[],[],[],[]⟩
def an4:Ann:=⟨[(10,[1,3,4,6,9,11,13,14])],[(3,[(0,[],[]),(2,[],[]),(4,[],[]),(6,[],[]),(1,[2],[]),(3,[],[]),(5,[],[]),(7,[],[]),(8,[],[]),(9,[],[]),(10,[],[]),(11,[],[])]),(12,[(0,[],[]),(1,[],[]),(2,[],[]),(3,[],[]),(4,[],[]),(5,[],[]),(6,[],[]),(7,[],[]),(8,[],[]),(9,[],[])])],[(3,[1,3,4,6]),(7,[1,3,4,6,9,10,11,12,42]),(8,[1,3,4,6,9,11]),(9,[1,3,4,6,9,11,13]),(12,[1,3,4,6,9,11,14,74]),(13,[1,3,4,6,9,11,13])],[]⟩
def an5:Ann:=⟨[(5,[2,3,9,10,11])],[(21,[(0,[],[]),(1,[],[]),(2,[],[]),(3,[],[]),(4,[],[]),(5,[],[]),(6,[],[]),(7,[],[]),(8,[],[]),(9,[],[]),(10,[],[]),(11,[],[])]),(23,[(0,[],[]),(1,[],[]),(2,[],[]),(3,[],[]),(4,[],[]),(5,[],[]),(6,[],[]),(7,[],[]),(8,[],[]),(9,[],[]),(10,[],[]),(11,[],[]),(12,[],[])]),(25,[(0,[],[]),(1,[],[]),(2,[],[]),(3,[],[]),(4,[],[]),(5,[],[]),(6,[],[]),(7,[],[]),(8,[],[]),(9,[],[]),(10,[],[]),(11,[],[]),(12,[],[]),(13,[],[])]),(27,[(0,[],[]),(1,[],[]),(2,[],[]),(3,[],[]),(4,[],[]),(5,[],[]),(6,[],[]),(7,[],[]),(8,[],[]),(9,[],[]),(10,[],[]),(11,[],[]),(12,[],[]),(13,[],[]),(14,[],[]),(15,[],[]),(16,[],[])])],[(3,[1,2,3,4]),(7,[2,3,9,10,11,32,33]),(13,[2,3,9,10,11,32,33,57,58,59,62,63,64,65,68,69,70,73,74,75,76]),(14,[2,3,9,10,11,32,33,57,58,59,62,63,64,65,68,69,70,73,74,75,76]),(18,[2,3,9,10,11,18,19,32,33,57,58,59,62,63,64,65,68,69,70,73,74,75,76,91,92,93,94,95,96]),(21,[2,3,9,10,11,18,19,32,33,57,58,59,62,63,64,65,68,69,70,73,74,75,76,91,92,93,94,95,96,110,116,117,118,119]),(23,[2,3,9,10,11,18,19,32,33,57,58,59,62,63,64,65,68,69,70,73,74,75,76,91,92,93,94,95,96,116,117,118,119,132,138,139,140,141]),(25,[2,3,9,10,11,18,19,32,33,57,58,59,62,63,64,65,68,69,70,73,74,75,76,91,92,93,94,95,96,116,117,118,119,138,139,140,141,155,161,162,163,164]),(28,[])],[]⟩
def an17:Ann:=⟨[],[],[],[]⟩
def an18:Ann:=⟨[],[],[],[]⟩
def an19:Ann:=⟨[(6,[1,2,3,4,5])],[],[(4,[1,2,3]),(8,[1,2,3,4,5,22,23]),(13,[1,2,3,4,5,6,7,22,23]),(15,[1,2,4])],[]⟩
def an20:Ann:=⟨[],[],[],[]⟩
def an21:Ann:=⟨[(9,[4,8,36,37,38])],[],[(6,[1,4,6]),(10,[4,8,36,37,38,39]),(13,[4,8])],[]⟩
def an22:Ann:=⟨[(4,[2,3,5])],[(6,[(0,[],[]),(1,[],[]),(2,[],[]),(3,[],[]),(4,[],[]),(5,[],[]),(6,[],[]),(7,[],[]),(8,[],[]),(9,[],[]),(10,[],[]),(11,[],[]),(12,[],[]),(13,[],[]),(14,[],[]),(15,[],[]),(16,[],[]),(17,[],[]),(18,[],[]),(19,[],[]),(20,[],[]),(21,[],[]),(22,[],[]),(23,[],[]),(24,[],[]),(25,[],[]),(26,[],[]),(27,[],[]),(28,[],[])])],[(3,[2,3]),(6,[2,3,5]),(8,[])],[]⟩
def an23:Ann:=⟨[],[],[],[]⟩
def an24:Ann:=⟨[],[],[],[]⟩
def an25:Ann:=⟨[(6,[1,2,4,5])],[(8,[(0,[],[]),(1,[],[]),(2,[],[]),(3,[],[]),(4,[],[]),(5,[],[]),(6,[],[]),(7,[],[]),(8,[],[]),(9,[],[]),(10,[],[]),(11,[],[]),(12,[],[]),(13,[2,6],[]),(14,[],[]),(15,[],[]),(16,[],[]),(17,[],[])])],[(8,[1,2,4,5]),(9,[1,2,4])],[]⟩
def an26:Ann:=⟨[],[],[(4,[1,2,4,6]),(6,[1,4,6])],[]⟩
def an27:Ann:=⟨[(6,[1,5])],[(1,[(0,[],[]),(1,[],[]),(2,[],[]),(3,[],[]),(4,[],[]),(5,[],[]),(6,[],[]),(7,[],[]),(8,[],[]),(9,[],[]),(10,[],[]),(11,[],[])]),(2,[(0,[],[]),(1,[],[]),(2,[],[]),(3,[],[]),(4,[],[]),(5,[],[]),(6,[],[]),(7,[],[]),(8,[],[]),(9,[],[]),(10,[],[]),(11,[],[])])],[(5,[1]),(8,[1,5]),(10,[])],[]⟩
def an28:Ann:=⟨[(5,[0,1,6])],[(7,[(0,[],[]),(1,[],[]),(2,[],[]),(3,[],[]),(4,[],[]),(5,[],[]),(6,[],[]),(7,[],[]),(8,[],[])])],[(4,[0,1]),(7,[0,1,6]),(9,[])],[]⟩
def an41:Ann:=⟨[(4,[0,14,15,16]),(13,[6,27,28,29]),(19,[6,27,28,29,54,55,56])],[(15,[(0,[],[]),(1,[],[]),(2,[],[]),(3,[],[]),(4,[],[]),(5,[],[]),(6,[1],[]),(7,[],[]),(8,[],[]),(9,[],[])])],[(3,[0]),(5,[0,14,15,16,17]),(9,[0]),(11,[0]),(14,[6,27,28,29,30]),(18,[6,8,27,28,29]),(20,[6,27,28,29,54,55,56,57]),(25,[6,27,28,29]),(26,[6,27,28,29]),(27,[6])],[]⟩
def an47:Ann:=⟨[(2,[0,1,5])],[],[(4,[0,1,5]),(6,[])],[]⟩
def an48:Ann:=⟨[(2,[0,1,5])],[],[(4,[0,1,5]),(6,[])],[]⟩
def an51:Ann:=⟨[(6,[0,4,5,6,7])],[],[(3,[0]),(8,[0,4,5,6,7]),(10,[0,4,5,6,7]),(15,[4])],[]⟩
def an57:Ann:=⟨[],[],[],[]⟩
def an58:Ann:=⟨[(3,[1,2,5,6])],[],[(5,[1,2,5,6,13,14,15]),(6,[5])],[]⟩
def an59:Ann:=⟨[],[],[],[]⟩
def an60:Ann:=⟨[(7,[0,1])],[(6,[(0,[],[]),(1,[],[]),(2,[],[]),(3,[],[]),(4,[],[]),(5,[],[]),(6,[],[]),(7,[],[]),(8,[],[]),(9,[],[]),(10,[],[]),(11,[],[]),(12,[],[])]),(9,[(0,[],[]),(1,[],[]),(2,[],[]),(3,[],[]),(4,[],[]),(5,[],[]),(6,[],[]),(7,[],[]),(8,[],[]),(9,[],[]),(10,[],[])])],[(6,[0,1]),(7,[0,1]),(9,[0,1]),(10,[0,1])],[]⟩
def an61:Ann:=⟨[],[],[],[]⟩
def an62:Ann:=⟨[(3,[0,2,3,4]),(6,[0,2,3,4,5]),(12,[2,6,44,45])],[],[(5,[0,2,3,4]),(8,[0,2,3,4,5]),(9,[2,3,4]),(13,[2,6,44,45,46]),(16,[2,6])],[]⟩
def an63:Ann:=⟨[(4,[0,1,5])],[(6,[(0,[],[]),(1,[],[]),(2,[],[]),(3,[],[]),(4,[],[]),(5,[],[]),(6,[],[]),(7,[],[]),(8,[],[])])],[(3,[0,1]),(6,[0,1,5]),(8,[])],[]⟩
def an64:Ann:=⟨[(4,[2,3,5])],[(6,[(0,[],[]),(1,[],[]),(2,[],[]),(3,[],[]),(4,[],[]),(5,[],[]),(6,[],[]),(7,[],[]),(8,[],[]),(9,[],[]),(10,[],[]),(11,[],[])])],[(3,[2,3]),(6,[2,3,5]),(8,[])],[]⟩
def an65:Ann:=⟨[(3,[1,5,6]),(7,[1,5,6,7,8])],[],[(4,[1,5,6]),(5,[1,5,6]),(9,[1,5,6,7,8]),(10,[1,5,6,7]),(11,[5])],[]⟩
def an66:Ann:=⟨[(5,[2,3,4,5,6]),(10,[2,3,7,8]),(13,[2,3,7,8,9])],[],[(7,[2,3,4,5,6]),(8,[2,3]),(11,[2,3,7,8]),(12,[2,3,7,8]),(15,[2,3,7,8,9]),(16,[2,7])],[]⟩
def an67:Ann:=⟨[(3,[1,2,3,4])],[],[(5,[1,2,3,4]),(6,[1,2,3])],[]⟩
def an68:Ann:=⟨[(6,[1,3,5])],[],[(5,[1,3]),(8,[1,3,5]),(10,[])],[]⟩
def an72:Ann:=⟨[(4,[27,28,29])],[],[(3,[1]),(5,[27,28,29,30]),(9,[])],[]⟩
def an73:Ann:=⟨[(4,[3,4,12,13,14]),(10,[3,4,12,13,14,29,30,31]),(13,[3,4,8,12,13,14,29,30,31,35,36,37])],[],[(5,[3,4,12,13,14,15]),(9,[3,4,6,12,13,14]),(11,[3,4,12,13,14,29,30,31,32]),(14,[3,4,8,12,13,14,29,30,31,35,36,37,38]),(18,[3,4,8,12,13,14,29,30,31]),(19,[3,4,12,13,14,29,30,31]),(20,[3,4,12,13,14]),(21,[])],[]⟩
def an74:Ann:=⟨[],[],[],[]⟩
def an75:Ann:=⟨[],[],[],[]⟩
def an76:Ann:=⟨[(12,[0,1,5,39,40,41]),(22,[1,8,63,64,65])],[],[(6,[0,1]),(10,[0,1,5]),(11,[0,1,5]),(13,[0,1,5,39,40,41,42]),(18,[0,1,5]),(23,[1,8,63,64,65,66]),(27,[8])],[]⟩
def an77:Ann:=⟨[(5,[0,3,24,25,26])],[(3,[(0,[],[]),(1,[],[]),(2,[],[]),(5,[],[]),(6,[],[]),(3,[6],[]),(4,[],[]),(7,[],[]),(8,[],[])]),(12,[(0,[],[]),(1,[],[]),(2,[],[]),(6,[],[]),(7,[],[]),(3,[7],[]),(4,[],[]),(5,[],[]),(8,[],[]),(9,[],[]),(10,[],[])])],[(3,[0,3]),(6,[0,3,24,25,26,27]),(11,[0,3])],[]⟩
def an78:Ann:=⟨[],[],[],[]⟩
def an79:Ann:=⟨[],[(1,[(0,[],[]),(1,[],[]),(2,[],[]),(3,[],[]),(5,[],[]),(6,[],[]),(7,[],[]),(8,[],[]),(9,[],[]),(4,[8],[]),(10,[],[]),(11,[],[])])],[],[]⟩
def an84:Ann:=⟨[(3,[0,3,4])],[(12,[(0,[],[]),(1,[],[]),(2,[],[]),(3,[],[]),(4,[],[]),(5,[],[]),(6,[],[]),(7,[],[]),(8,[],[]),(9,[],[])])],[(5,[0,3,4]),(8,[0,3,4,5,20,24,25]),(12,[0,3,4,5,24,25,37,41,42]),(13,[3])],[]⟩
def an85:Ann:=⟨[(7,[5,6,7])],[(9,[(0,[],[]),(1,[],[]),(2,[],[]),(3,[],[]),(4,[],[]),(5,[],[]),(6,[],[]),(7,[],[]),(8,[],[])])],[(3,[0,1]),(6,[5,6]),(9,[5,6,7]),(11,[])],[]⟩
def an86:Ann:=⟨[(11,[0,2,4,9]),(21,[0,2,4,12])],[(14,[(0,[],[]),(1,[],[]),(2,[],[]),(3,[],[]),(4,[],[]),(5,[],[]),(6,[],[]),(7,[],[]),(8,[],[]),(9,[],[]),(10,[],[]),(11,[],[]),(12,[],[]),(13,[],[])])],[(3,[0,2,4]),(10,[0,2,4]),(13,[0,2,4,9]),(16,[0,2,4,9]),(18,[0,2,4]),(20,[0,2,4]),(23,[0,2,4,12]),(26,[0,2,4,12,142,143,144,145,146,147,148,149]),(35,[0,2])],[]⟩
def an94:Ann:=⟨[],[],[],[]⟩
def an95:Ann:=⟨[(4,[2,4,5,6,14]),(14,[2,4,6,105])],[(6,[(0,[],[]),(1,[],[]),(2,[],[]),(3,[],[]),(4,[],[]),(5,[],[]),(6,[],[]),(7,[],[]),(8,[],[]),(9,[],[]),(10,[],[])]),(7,[(0,[],[]),(1,[],[]),(2,[],[]),(4,[],[]),(5,[],[]),(8,[],[]),(9,[],[]),(3,[5,9],[]),(6,[9],[]),(7,[],[]),(10,[],[]),(11,[],[]),(12,[],[]),(13,[],[])]),(9,[(0,[],[]),(1,[],[]),(3,[],[]),(4,[],[]),(7,[],[]),(8,[],[]),(2,[4,8],[]),(5,[8],[]),(6,[],[]),(9,[],[]),(10,[],[]),(11,[],[])]),(16,[(0,[],[]),(1,[],[]),(2,[],[]),(3,[],[]),(4,[],[]),(5,[],[]),(6,[],[]),(7,[],[]),(8,[],[])])],[(5,[2,4,5,6,14,15]),(13,[2,4,6]),(15,[2,4,6,105,106]),(18,[2,4])],[]⟩
def an96:Ann:=⟨[(2,[0,3])],[],[(3,[0,3]),(5,[0,3])],[]⟩
def an97:Ann:=⟨[(2,[0,1,5])],[],[(3,[0,1,5]),(5,[0,1,5])],[]⟩
def an98:Ann:=⟨[],[],[],[]⟩
def an99:Ann:=⟨[(3,[0,3]),(7,[3,4,5])],[],[(5,[0,3]),(9,[3,4,5]),(10,[3])],[]⟩
def an100:Ann:=⟨[(3,[1,2,4,7,8,9,10]),(7,[4,7,8,9,11]),(15,[4,7,8,9,16,17]),(24,[4,8,16,24])],[(9,[(0,[],[]),(1,[],[]),(2,[],[]),(3,[],[]),(4,[],[]),(5,[],[]),(6,[],[]),(7,[],[]),(8,[7],[]),(9,[],[])]),(12,[(0,[],[]),(1,[],[]),(2,[],[]),(3,[],[]),(4,[],[]),(5,[],[]),(6,[],[]),(7,[],[]),(8,[],[]),(9,[],[]),(10,[],[]),(11,[],[]),(12,[],[]),(13,[],[]),(14,[],[]),(15,[],[])]),(17,[(0,[],[]),(1,[],[]),(2,[],[]),(3,[],[]),(4,[3],[]),(5,[],[])]),(20,[(0,[],[]),(1,[],[]),(2,[],[]),(3,[],[]),(4,[],[]),(5,[],[]),(6,[],[]),(7,[],[]),(8,[],[]),(9,[],[]),(10,[],[]),(11,[],[]),(12,[],[]),(13,[],[]),(14,[],[]),(15,[],[]),(16,[],[]),(17,[],[]),(18,[],[]),(19,[],[]),(20,[],[]),(21,[],[]),(22,[],[]),(23,[],[])]),(26,[(0,[],[]),(1,[],[]),(2,[],[]),(3,[],[]),(4,[],[]),(5,[],[]),(6,[],[]),(7,[],[]),(8,[],[]),(9,[],[])])],[(5,[1,2,4,7,8,9,10]),(6,[4,7,8,9]),(9,[4,7,8,9,11]),(13,[4,7,8,9]),(17,[4,7,8,9,16,17]),(23,[4,8,16]),(26,[4,8,16,24]),(27,[4,8])],[]⟩
def an101:Ann:=⟨[(4,[0,21,22])],[],[(3,[0]),(5,[0,21,22,23]),(9,[])],[]⟩
def an102:Ann:=⟨[],[],[],[]⟩
def an103:Ann:=⟨[(4,[0,10,11,12]),(9,[0,4,10,11,12,22,23,24])],[],[(3,[0]),(5,[0,10,11,12,13]),(8,[0,3,4,10,11,12]),(10,[0,4,10,11,12,22,23,24,25]),(14,[0,10,11,12]),(15,[])],[]⟩
def an104:Ann:=⟨[],[],[],[]⟩
def an105:Ann:=⟨[(19,[1,97,98,99])],[],[(3,[1,2]),(7,[1,2]),(18,[1,2]),(20,[1,97,98,99,100]),(24,[])],[]⟩
def an106:Ann:=⟨[],[],[],[]⟩
def an107:Ann:=⟨[],[],[],[]⟩
def an108:Ann:=⟨[],[],[],[]⟩
def an109:Ann:=⟨[],[(3,[(0,[],[]),(1,[],[]),(2,[],[]),(3,[],[]),(5,[],[]),(6,[],[]),(7,[],[]),(8,[],[]),(9,[],[]),(11,[],[]),(4,[8],[]),(10,[],[]),(12,[],[])])],[(3,[0,1])],[]⟩
def an110:Ann:=⟨[(3,[0,3,8,9])],[(12,[(0,[],[]),(1,[],[]),(2,[],[]),(3,[],[]),(4,[],[]),(5,[],[]),(6,[],[]),(7,[],[]),(8,[],[]),(9,[],[])])],[(4,[0,3,8,9,10]),(8,[0,3,5,8,9,19,23,24]),(12,[0,3,5,8,9,23,24,36,40,41]),(14,[3])],[]⟩
def an111:Ann:=⟨[],[],[],[]⟩
def an119:Ann:=⟨[(4,[0,3,4,5])],[],[(6,[0,3,4,5]),(9,[0,3,4])],[]⟩
def an120:Ann:=⟨[(4,[0,3])],[],[(3,[0]),(6,[0,3]),(8,[])],[]⟩
def an122:Ann:=⟨[(5,[0,4,5,6,7])],[],[(7,[0,4,5,6,7]),(10,[0,4,5,6,7,30,31,32]),(14,[0,4,5])],[]⟩
def an123:Ann:=⟨[(10,[0,2,4,8,9])],[],[(3,[0,2,4]),(5,[0,2,4]),(12,[0,2,4,9,44]),(14,[0,2,4,9,44,51,52,53]),(15,[0,4,8])],[]⟩
def an133:Ann:=⟨[(3,[0,2,3,8]),(8,[2,3,5])],[(5,[(0,[],[]),(1,[],[]),(2,[],[]),(3,[],[]),(4,[],[]),(5,[],[]),(6,[],[]),(7,[],[]),(8,[],[]),(9,[],[]),(10,[],[]),(11,[],[]),(12,[],[]),(13,[],[]),(14,[],[]),(15,[],[]),(16,[],[]),(17,[],[]),(18,[],[]),(19,[],[]),(20,[],[]),(21,[],[]),(22,[],[]),(23,[],[]),(24,[],[]),(25,[],[]),(26,[],[]),(27,[],[]),(28,[],[]),(29,[],[]),(30,[],[]),(31,[],[]),(32,[],[]),(33,[],[]),(34,[],[]),(35,[],[])]),(10,[(0,[],[]),(1,[],[]),(2,[],[]),(3,[],[]),(4,[],[]),(5,[],[]),(6,[],[]),(7,[],[]),(8,[7],[]),(9,[],[])]),(12,[(0,[],[]),(1,[],[]),(2,[],[]),(3,[],[]),(4,[],[]),(5,[],[]),(6,[],[]),(7,[],[]),(8,[],[]),(9,[],[]),(10,[],[]),(11,[],[]),(12,[],[]),(13,[],[]),(14,[],[])]),(13,[(0,[],[]),(1,[],[]),(2,[],[]),(3,[],[]),(5,[],[]),(8,[],[]),(9,[],[]),(4,[2],[]),(6,[2],[]),(7,[],[]),(10,[],[]),(11,[],[]),(12,[],[]),(13,[],[])])],[(4,[0,2,3,8,9]),(7,[2,3]),(10,[2,3,5]),(14,[2,3])],[]⟩
def an134:Ann:=⟨[],[],[],[]⟩
def an135:Ann:=⟨[],[(1,[(0,[],[]),(1,[],[]),(2,[],[]),(3,[],[]),(4,[],[]),(5,[],[]),(6,[],[]),(7,[],[]),(8,[],[]),(9,[],[]),(10,[],[]),(11,[],[]),(12,[],[]),(13,[],[]),(14,[],[]),(15,[],[]),(16,[],[]),(17,[],[]),(18,[],[]),(19,[],[]),(20,[],[]),(21,[],[]),(22,[],[]),(23,[],[]),(24,[],[]),(25,[],[]),(26,[],[]),(27,[],[]),(28,[],[]),(29,[],[])])],[],[]⟩
def an136:Ann:=⟨[],[],[],[]⟩
def an137:Ann:=⟨[],[],[],[]⟩
def an138:Ann:=⟨[],[],[],[]⟩
def an139:Ann:=⟨[],[],[],[]⟩
def an141:Ann:=⟨[],[],[],[]⟩
def an142:Ann:=⟨[],[(0,[(0,[],[]),(1,[],[]),(2,[],[]),(3,[],[]),(6,[],[]),(9,[],[]),(10,[],[]),(11,[],[]),(12,[],[]),(13,[],[]),(4,[12],[]),(5,[],[]),(7,[],[]),(8,[12],[]),(14,[],[]),(15,[],[])])],[],[]⟩
def an159:Ann:=⟨[],[],[],[]⟩
def an160:Ann:=⟨[(4,[0,1,5])],[],[(3,[0,1]),(6,[0,1,5]),(8,[])],[]⟩
def an161:Ann:=⟨[],[],[(3,[1]),(5,[1]),(8,[1]),(14,[1,60,71]),(17,[1])],[]⟩
def an162:Ann:=⟨[],[],[],[]⟩
def an167:Ann:=⟨[],[],[],[]⟩
def an168:Ann:=⟨[(3,[0,3,4,5,6])],[],[(9,[0,3,4,5,6]),(10,[0,3,4,5,6,31,36,37,38]),(11,[0,3,4,5,6,31,36,37,38]),(13,[0,3,4,5,6,36,37,38,49,55,56,57,58]),(15,[3])],[]⟩
def an169:Ann:=⟨[],[],[],[]⟩
def an170:Ann:=⟨[],[],[(4,[0]),(8,[0,5,6]),(13,[5,7]),(14,[0,1])],[]⟩
def an172:Ann:=⟨[(15,[0,1,5,6,7,8,9,10])],[],[(3,[0,1,5,16]),(10,[0,1,5]),(16,[0,1,5,6,7,8,9,10]),(21,[0,1,5,6,7,8,9,10]),(23,[0,1,5,6,7,8,9,10,85,86,87,88,89,90,91,92]),(26,[0,1,5,6,7,8,9,10,85,86,87,88,89,90,91,92,103,104,105,106,107]),(31,[0,1,5,6,7,8,9,10,85,86,87,88,89,90,91,92,103,104,105,106,122,123,124,125,126,129,130,131,132]),(35,[])],[]⟩
def an178:Ann:=⟨[],[],[],[]⟩
def an179:Ann:=⟨[(2,[0,1,5])],[],[(4,[0,1,5])],[]⟩
def an180:Ann:=⟨[(11,[0,1,2,3,9,10])],[],[(3,[0,1,2,3]),(5,[0,1,2,3]),(7,[0,1,2,3]),(12,[0,1,2,3,9,10]),(14,[0,1,2,3,9,10,11]),(17,[0,9,10])],[]⟩
def an181:Ann:=⟨[],[],[(3,[0])],[]⟩
def an182:Ann:=⟨[],[],[],[]⟩
def an183:Ann:=⟨[(1,[0,1,4])],[(7,[(0,[],[]),(1,[],[]),(2,[],[]),(3,[],[]),(4,[],[]),(5,[],[]),(6,[],[]),(7,[],[]),(8,[],[]),(9,[],[]),(10,[],[]),(11,[],[]),(12,[],[]),(13,[],[]),(14,[],[])]),(8,[(0,[],[]),(1,[],[]),(2,[],[]),(3,[],[]),(4,[],[]),(5,[],[]),(6,[],[]),(7,[],[]),(8,[],[]),(9,[],[]),(10,[],[]),(11,[],[]),(12,[],[]),(13,[],[]),(14,[],[])]),(9,[(0,[],[]),(1,[],[]),(2,[],[]),(3,[],[]),(4,[],[]),(5,[],[]),(6,[],[]),(7,[],[]),(8,[],[]),(9,[],[]),(10,[],[]),(11,[],[]),(12,[],[]),(13,[],[]),(14,[],[])]),(10,[(0,[],[]),(1,[],[]),(2,[],[]),(3,[],[]),(4,[],[]),(5,[],[]),(6,[],[]),(7,[],[]),(8,[],[]),(9,[],[]),(10,[],[]),(11,[],[]),(12,[],[]),(13,[],[]),(14,[],[])]),(17,[(0,[],[]),(1,[],[]),(2,[],[]),(3,[],[]),(4,[],[]),(5,[],[]),(6,[],[]),(7,[],[]),(8,[],[]),(9,[],[]),(10,[],[]),(11,[],[]),(12,[],[]),(13,[],[]),(14,[],[])]),(18,[(0,[],[]),(1,[],[]),(2,[],[]),(3,[],[]),(4,[],[]),(5,[],[]),(6,[],[]),(7,[],[]),(8,[],[]),(9,[],[]),(10,[],[]),(11,[],[]),(12,[],[]),(13,[],[]),(14,[],[])]),(23,[(0,[],[]),(1,[],[]),(2,[],[]),(3,[],[]),(4,[],[]),(5,[],[]),(6,[],[]),(7,[],[]),(8,[],[]),(9,[],[]),(10,[],[]),(11,[],[]),(12,[],[]),(13,[],[]),(14,[],[])])],[(2,[0,1,4]),(12,[0,1,4]),(20,[0,4,12]),(25,[0,4,12])],[]⟩
def an185:Ann:=⟨[],[],[],[]⟩
def an187:Ann:=⟨[],[],[],[]⟩
def an192:Ann:=⟨[(6,[0,1,5])],[],[(3,[0,1]),(5,[0,1]),(9,[0,1,5,6])],[]⟩
def an193:Ann:=⟨[],[],[],[]⟩
def an194:Ann:=⟨[],[],[],[]⟩
def an195:Ann:=⟨[],[],[(4,[0,2]),(7,[0,2]),(10,[0,2])],[]⟩
def an196:Ann:=⟨[],[],[],[]⟩
def an197:Ann:=⟨[],[],[],[]⟩
def an198:Ann:=⟨[],[],[],[]⟩
def an200:Ann:=⟨[(3,[0,4,5]),(8,[4,6,7,8])],[],[(5,[0,4,5]),(6,[0,4]),(10,[4,6,7,8]),(13,[4,6])],[]⟩
def an204:Ann:=⟨[],[],[(3,[0])],[]⟩
def an205:Ann:=⟨[],[],[(3,[0])],[]⟩
noncomputable def tab:Tab:=fun f=>match f with
 |3=>some (Tryz.f3,an3)
 |4=>some (Tryz.f4,an4)
 |5=>some (Tryz.f5,an5)
 |17=>some (Tryz.f17,an17)
 |18=>some (Tryz.f18,an18)
 |19=>some (Tryz.f19,an19)
 |20=>some (Tryz.f20,an20)
 |21=>some (Tryz.f21,an21)
 |22=>some (Tryz.f22,an22)
 |23=>some (Tryz.f23,an23)
 |24=>some (Tryz.f24,an24)
 |25=>some (Tryz.f25,an25)
 |26=>some (Tryz.f26,an26)
 |27=>some (Tryz.f27,an27)
 |28=>some (Tryz.f28,an28)
 |41=>some (Tryz.f41,an41)
 |47=>some (Tryz.f47,an47)
 |48=>some (Tryz.f48,an48)
 |51=>some (Tryz.f51,an51)
 |57=>some (Tryz.f57,an57)
 |58=>some (Tryz.f58,an58)
 |59=>some (Tryz.f59,an59)
 |60=>some (Tryz.f60,an60)
 |61=>some (Tryz.f61,an61)
 |62=>some (Tryz.f62,an62)
 |63=>some (Tryz.f63,an63)
 |64=>some (Tryz.f64,an64)
 |65=>some (Tryz.f65,an65)
 |66=>some (Tryz.f66,an66)
 |67=>some (Tryz.f67,an67)
 |68=>some (Tryz.f68,an68)
 |72=>some (Tryz.f72,an72)
 |73=>some (Tryz.f73,an73)
 |74=>some (Tryz.f74,an74)
 |75=>some (Tryz.f75,an75)
 |76=>some (Tryz.f76,an76)
 |77=>some (Tryz.f77,an77)
 |78=>some (Tryz.f78,an78)
 |79=>some (Tryz.f79,an79)
 |84=>some (Tryz.f84,an84)
 |85=>some (Tryz.f85,an85)
 |86=>some (Tryz.f86,an86)
 |94=>some (Tryz.f94,an94)
 |95=>some (Tryz.f95,an95)
 |96=>some (Tryz.f96,an96)
 |97=>some (Tryz.f97,an97)
 |98=>some (Tryz.f98,an98)
 |99=>some (Tryz.f99,an99)
 |100=>some (Tryz.f100,an100)
 |101=>some (Tryz.f101,an101)
 |102=>some (Tryz.f102,an102)
 |103=>some (Tryz.f103,an103)
 |104=>some (Tryz.f104,an104)
 |105=>some (Tryz.f105,an105)
 |106=>some (Tryz.f106,an106)
 |107=>some (Tryz.f107,an107)
 |108=>some (Tryz.f108,an108)
 |109=>some (Tryz.f109,an109)
 |110=>some (Tryz.f110,an110)
 |111=>some (Tryz.f111,an111)
 |119=>some (Tryz.f119,an119)
 |120=>some (Tryz.f120,an120)
 |122=>some (Tryz.f122,an122)
 |123=>some (Tryz.f123,an123)
 |133=>some (Tryz.f133,an133)
 |134=>some (Tryz.f134,an134)
 |135=>some (Tryz.f135,an135)
 |136=>some (Tryz.f136,an136)
 |137=>some (Tryz.f137,an137)
 |138=>some (Tryz.f138,an138)
 |139=>some (Tryz.f139,an139)
 |141=>some (Tryz.f141,an141)
 |142=>some (Tryz.f142,an142)
 |159=>some (Tryz.f159,an159)
 |160=>some (Tryz.f160,an160)
 |161=>some (Tryz.f161,an161)
 |162=>some (Tryz.f162,an162)
 |167=>some (Tryz.f167,an167)
 |168=>some (Tryz.f168,an168)
 |169=>some (Tryz.f169,an169)
 |170=>some (Tryz.f170,an170)
 |172=>some (Tryz.f172,an172)
 |178=>some (Tryz.f178,an178)
 |179=>some (Tryz.f179,an179)
 |180=>some (Tryz.f180,an180)
 |181=>some (Tryz.f181,an181)
 |182=>some (Tryz.f182,an182)
 |183=>some (Tryz.f183,an183)
 |185=>some (Tryz.f185,an185)
 |187=>some (Tryz.f187,an187)
 |192=>some (Tryz.f192,an192)
 |193=>some (Tryz.f193,an193)
 |194=>some (Tryz.f194,an194)
 |195=>some (Tryz.f195,an195)
 |196=>some (Tryz.f196,an196)
 |197=>some (Tryz.f197,an197)
 |198=>some (Tryz.f198,an198)
 |200=>some (Tryz.f200,an200)
 |204=>some (Tryz.f204,an204)
 |205=>some (Tryz.f205,an205)
 |_=>none
theorem ok3:fnOk Tryz.prog 7 an3 3 Tryz.f3:=⟨Tryz.func3,by kernel_rfl,by kernel_rfl,by kernel_rfl,by kernel_rfl⟩
theorem ok4:fnOk Tryz.prog 7 an4 4 Tryz.f4:=⟨Tryz.func4,by kernel_rfl,by kernel_rfl,by kernel_rfl,by kernel_rfl⟩
theorem ok5:fnOk Tryz.prog 7 an5 5 Tryz.f5:=⟨Tryz.func5,by kernel_rfl,by kernel_rfl,by kernel_rfl,by kernel_rfl⟩
theorem ok17:fnOk Tryz.prog 7 an17 17 Tryz.f17:=⟨Tryz.func17,by kernel_rfl,by kernel_rfl,by kernel_rfl,by kernel_rfl⟩
theorem ok18:fnOk Tryz.prog 7 an18 18 Tryz.f18:=⟨Tryz.func18,by kernel_rfl,by kernel_rfl,by kernel_rfl,by kernel_rfl⟩
theorem ok19:fnOk Tryz.prog 7 an19 19 Tryz.f19:=⟨Tryz.func19,by kernel_rfl,by kernel_rfl,by kernel_rfl,by kernel_rfl⟩
theorem ok20:fnOk Tryz.prog 7 an20 20 Tryz.f20:=⟨Tryz.func20,by kernel_rfl,by kernel_rfl,by kernel_rfl,by kernel_rfl⟩
theorem ok21:fnOk Tryz.prog 7 an21 21 Tryz.f21:=⟨Tryz.func21,by kernel_rfl,by kernel_rfl,by kernel_rfl,by kernel_rfl⟩
theorem ok22:fnOk Tryz.prog 7 an22 22 Tryz.f22:=⟨Tryz.func22,by kernel_rfl,by kernel_rfl,by kernel_rfl,by kernel_rfl⟩
theorem ok23:fnOk Tryz.prog 7 an23 23 Tryz.f23:=⟨Tryz.func23,by kernel_rfl,by kernel_rfl,by kernel_rfl,by kernel_rfl⟩
theorem ok24:fnOk Tryz.prog 7 an24 24 Tryz.f24:=⟨Tryz.func24,by kernel_rfl,by kernel_rfl,by kernel_rfl,by kernel_rfl⟩
theorem ok25:fnOk Tryz.prog 7 an25 25 Tryz.f25:=⟨Tryz.func25,by kernel_rfl,by kernel_rfl,by kernel_rfl,by kernel_rfl⟩
theorem ok26:fnOk Tryz.prog 7 an26 26 Tryz.f26:=⟨Tryz.func26,by kernel_rfl,by kernel_rfl,by kernel_rfl,by kernel_rfl⟩
theorem ok27:fnOk Tryz.prog 7 an27 27 Tryz.f27:=⟨Tryz.func27,by kernel_rfl,by kernel_rfl,by kernel_rfl,by kernel_rfl⟩
theorem ok28:fnOk Tryz.prog 7 an28 28 Tryz.f28:=⟨Tryz.func28,by kernel_rfl,by kernel_rfl,by kernel_rfl,by kernel_rfl⟩
theorem ok41:fnOk Tryz.prog 7 an41 41 Tryz.f41:=⟨Tryz.func41,by kernel_rfl,by kernel_rfl,by kernel_rfl,by kernel_rfl⟩
theorem ok47:fnOk Tryz.prog 7 an47 47 Tryz.f47:=⟨Tryz.func47,by kernel_rfl,by kernel_rfl,by kernel_rfl,by kernel_rfl⟩
theorem ok48:fnOk Tryz.prog 7 an48 48 Tryz.f48:=⟨Tryz.func48,by kernel_rfl,by kernel_rfl,by kernel_rfl,by kernel_rfl⟩
theorem ok51:fnOk Tryz.prog 7 an51 51 Tryz.f51:=⟨Tryz.func51,by kernel_rfl,by kernel_rfl,by kernel_rfl,by kernel_rfl⟩
theorem ok57:fnOk Tryz.prog 7 an57 57 Tryz.f57:=⟨Tryz.func57,by kernel_rfl,by kernel_rfl,by kernel_rfl,by kernel_rfl⟩
theorem ok58:fnOk Tryz.prog 7 an58 58 Tryz.f58:=⟨Tryz.func58,by kernel_rfl,by kernel_rfl,by kernel_rfl,by kernel_rfl⟩
theorem ok59:fnOk Tryz.prog 7 an59 59 Tryz.f59:=⟨Tryz.func59,by kernel_rfl,by kernel_rfl,by kernel_rfl,by kernel_rfl⟩
theorem ok60:fnOk Tryz.prog 7 an60 60 Tryz.f60:=⟨Tryz.func60,by kernel_rfl,by kernel_rfl,by kernel_rfl,by kernel_rfl⟩
theorem ok61:fnOk Tryz.prog 7 an61 61 Tryz.f61:=⟨Tryz.func61,by kernel_rfl,by kernel_rfl,by kernel_rfl,by kernel_rfl⟩
theorem ok62:fnOk Tryz.prog 7 an62 62 Tryz.f62:=⟨Tryz.func62,by kernel_rfl,by kernel_rfl,by kernel_rfl,by kernel_rfl⟩
theorem ok63:fnOk Tryz.prog 7 an63 63 Tryz.f63:=⟨Tryz.func63,by kernel_rfl,by kernel_rfl,by kernel_rfl,by kernel_rfl⟩
theorem ok64:fnOk Tryz.prog 7 an64 64 Tryz.f64:=⟨Tryz.func64,by kernel_rfl,by kernel_rfl,by kernel_rfl,by kernel_rfl⟩
theorem ok65:fnOk Tryz.prog 7 an65 65 Tryz.f65:=⟨Tryz.func65,by kernel_rfl,by kernel_rfl,by kernel_rfl,by kernel_rfl⟩
theorem ok66:fnOk Tryz.prog 7 an66 66 Tryz.f66:=⟨Tryz.func66,by kernel_rfl,by kernel_rfl,by kernel_rfl,by kernel_rfl⟩
theorem ok67:fnOk Tryz.prog 7 an67 67 Tryz.f67:=⟨Tryz.func67,by kernel_rfl,by kernel_rfl,by kernel_rfl,by kernel_rfl⟩
theorem ok68:fnOk Tryz.prog 7 an68 68 Tryz.f68:=⟨Tryz.func68,by kernel_rfl,by kernel_rfl,by kernel_rfl,by kernel_rfl⟩
theorem ok72:fnOk Tryz.prog 7 an72 72 Tryz.f72:=⟨Tryz.func72,by kernel_rfl,by kernel_rfl,by kernel_rfl,by kernel_rfl⟩
theorem ok73:fnOk Tryz.prog 7 an73 73 Tryz.f73:=⟨Tryz.func73,by kernel_rfl,by kernel_rfl,by kernel_rfl,by kernel_rfl⟩
theorem ok74:fnOk Tryz.prog 7 an74 74 Tryz.f74:=⟨Tryz.func74,by kernel_rfl,by kernel_rfl,by kernel_rfl,by kernel_rfl⟩
theorem ok75:fnOk Tryz.prog 7 an75 75 Tryz.f75:=⟨Tryz.func75,by kernel_rfl,by kernel_rfl,by kernel_rfl,by kernel_rfl⟩
theorem ok76:fnOk Tryz.prog 7 an76 76 Tryz.f76:=⟨Tryz.func76,by kernel_rfl,by kernel_rfl,by kernel_rfl,by kernel_rfl⟩
theorem ok77:fnOk Tryz.prog 7 an77 77 Tryz.f77:=⟨Tryz.func77,by kernel_rfl,by kernel_rfl,by kernel_rfl,by kernel_rfl⟩
theorem ok78:fnOk Tryz.prog 7 an78 78 Tryz.f78:=⟨Tryz.func78,by kernel_rfl,by kernel_rfl,by kernel_rfl,by kernel_rfl⟩
theorem ok79:fnOk Tryz.prog 7 an79 79 Tryz.f79:=⟨Tryz.func79,by kernel_rfl,by kernel_rfl,by kernel_rfl,by kernel_rfl⟩
theorem ok84:fnOk Tryz.prog 7 an84 84 Tryz.f84:=⟨Tryz.func84,by kernel_rfl,by kernel_rfl,by kernel_rfl,by kernel_rfl⟩
theorem ok85:fnOk Tryz.prog 7 an85 85 Tryz.f85:=⟨Tryz.func85,by kernel_rfl,by kernel_rfl,by kernel_rfl,by kernel_rfl⟩
theorem ok86:fnOk Tryz.prog 7 an86 86 Tryz.f86:=⟨Tryz.func86,by kernel_rfl,by kernel_rfl,by kernel_rfl,by kernel_rfl⟩
theorem ok94:fnOk Tryz.prog 7 an94 94 Tryz.f94:=⟨Tryz.func94,by kernel_rfl,by kernel_rfl,by kernel_rfl,by kernel_rfl⟩
theorem ok95:fnOk Tryz.prog 7 an95 95 Tryz.f95:=⟨Tryz.func95,by kernel_rfl,by kernel_rfl,by kernel_rfl,by kernel_rfl⟩
theorem ok96:fnOk Tryz.prog 7 an96 96 Tryz.f96:=⟨Tryz.func96,by kernel_rfl,by kernel_rfl,by kernel_rfl,by kernel_rfl⟩
theorem ok97:fnOk Tryz.prog 7 an97 97 Tryz.f97:=⟨Tryz.func97,by kernel_rfl,by kernel_rfl,by kernel_rfl,by kernel_rfl⟩
theorem ok98:fnOk Tryz.prog 7 an98 98 Tryz.f98:=⟨Tryz.func98,by kernel_rfl,by kernel_rfl,by kernel_rfl,by kernel_rfl⟩
theorem ok99:fnOk Tryz.prog 7 an99 99 Tryz.f99:=⟨Tryz.func99,by kernel_rfl,by kernel_rfl,by kernel_rfl,by kernel_rfl⟩
theorem ok100:fnOk Tryz.prog 7 an100 100 Tryz.f100:=⟨Tryz.func100,by kernel_rfl,by kernel_rfl,by kernel_rfl,by kernel_rfl⟩
theorem ok101:fnOk Tryz.prog 7 an101 101 Tryz.f101:=⟨Tryz.func101,by kernel_rfl,by kernel_rfl,by kernel_rfl,by kernel_rfl⟩
theorem ok102:fnOk Tryz.prog 7 an102 102 Tryz.f102:=⟨Tryz.func102,by kernel_rfl,by kernel_rfl,by kernel_rfl,by kernel_rfl⟩
theorem ok103:fnOk Tryz.prog 7 an103 103 Tryz.f103:=⟨Tryz.func103,by kernel_rfl,by kernel_rfl,by kernel_rfl,by kernel_rfl⟩
theorem ok104:fnOk Tryz.prog 7 an104 104 Tryz.f104:=⟨Tryz.func104,by kernel_rfl,by kernel_rfl,by kernel_rfl,by kernel_rfl⟩
theorem ok105:fnOk Tryz.prog 7 an105 105 Tryz.f105:=⟨Tryz.func105,by kernel_rfl,by kernel_rfl,by kernel_rfl,by kernel_rfl⟩
theorem ok106:fnOk Tryz.prog 7 an106 106 Tryz.f106:=⟨Tryz.func106,by kernel_rfl,by kernel_rfl,by kernel_rfl,by kernel_rfl⟩
theorem ok107:fnOk Tryz.prog 7 an107 107 Tryz.f107:=⟨Tryz.func107,by kernel_rfl,by kernel_rfl,by kernel_rfl,by kernel_rfl⟩
theorem ok108:fnOk Tryz.prog 7 an108 108 Tryz.f108:=⟨Tryz.func108,by kernel_rfl,by kernel_rfl,by kernel_rfl,by kernel_rfl⟩
theorem ok109:fnOk Tryz.prog 7 an109 109 Tryz.f109:=⟨Tryz.func109,by kernel_rfl,by kernel_rfl,by kernel_rfl,by kernel_rfl⟩
theorem ok110:fnOk Tryz.prog 7 an110 110 Tryz.f110:=⟨Tryz.func110,by kernel_rfl,by kernel_rfl,by kernel_rfl,by kernel_rfl⟩
theorem ok111:fnOk Tryz.prog 7 an111 111 Tryz.f111:=⟨Tryz.func111,by kernel_rfl,by kernel_rfl,by kernel_rfl,by kernel_rfl⟩
theorem ok119:fnOk Tryz.prog 7 an119 119 Tryz.f119:=⟨Tryz.func119,by kernel_rfl,by kernel_rfl,by kernel_rfl,by kernel_rfl⟩
theorem ok120:fnOk Tryz.prog 7 an120 120 Tryz.f120:=⟨Tryz.func120,by kernel_rfl,by kernel_rfl,by kernel_rfl,by kernel_rfl⟩
theorem ok122:fnOk Tryz.prog 7 an122 122 Tryz.f122:=⟨Tryz.func122,by kernel_rfl,by kernel_rfl,by kernel_rfl,by kernel_rfl⟩
theorem ok123:fnOk Tryz.prog 7 an123 123 Tryz.f123:=⟨Tryz.func123,by kernel_rfl,by kernel_rfl,by kernel_rfl,by kernel_rfl⟩
theorem ok133:fnOk Tryz.prog 7 an133 133 Tryz.f133:=⟨Tryz.func133,by kernel_rfl,by kernel_rfl,by kernel_rfl,by kernel_rfl⟩
theorem ok134:fnOk Tryz.prog 7 an134 134 Tryz.f134:=⟨Tryz.func134,by kernel_rfl,by kernel_rfl,by kernel_rfl,by kernel_rfl⟩
theorem ok135:fnOk Tryz.prog 7 an135 135 Tryz.f135:=⟨Tryz.func135,by kernel_rfl,by kernel_rfl,by kernel_rfl,by kernel_rfl⟩
theorem ok136:fnOk Tryz.prog 7 an136 136 Tryz.f136:=⟨Tryz.func136,by kernel_rfl,by kernel_rfl,by kernel_rfl,by kernel_rfl⟩
theorem ok137:fnOk Tryz.prog 7 an137 137 Tryz.f137:=⟨Tryz.func137,by kernel_rfl,by kernel_rfl,by kernel_rfl,by kernel_rfl⟩
theorem ok138:fnOk Tryz.prog 7 an138 138 Tryz.f138:=⟨Tryz.func138,by kernel_rfl,by kernel_rfl,by kernel_rfl,by kernel_rfl⟩
theorem ok139:fnOk Tryz.prog 7 an139 139 Tryz.f139:=⟨Tryz.func139,by kernel_rfl,by kernel_rfl,by kernel_rfl,by kernel_rfl⟩
theorem ok141:fnOk Tryz.prog 7 an141 141 Tryz.f141:=⟨Tryz.func141,by kernel_rfl,by kernel_rfl,by kernel_rfl,by kernel_rfl⟩
theorem ok142:fnOk Tryz.prog 7 an142 142 Tryz.f142:=⟨Tryz.func142,by kernel_rfl,by kernel_rfl,by kernel_rfl,by kernel_rfl⟩
theorem ok159:fnOk Tryz.prog 7 an159 159 Tryz.f159:=⟨Tryz.func159,by kernel_rfl,by kernel_rfl,by kernel_rfl,by kernel_rfl⟩
theorem ok160:fnOk Tryz.prog 7 an160 160 Tryz.f160:=⟨Tryz.func160,by kernel_rfl,by kernel_rfl,by kernel_rfl,by kernel_rfl⟩
theorem ok161:fnOk Tryz.prog 7 an161 161 Tryz.f161:=⟨Tryz.func161,by kernel_rfl,by kernel_rfl,by kernel_rfl,by kernel_rfl⟩
theorem ok162:fnOk Tryz.prog 7 an162 162 Tryz.f162:=⟨Tryz.func162,by kernel_rfl,by kernel_rfl,by kernel_rfl,by kernel_rfl⟩
theorem ok167:fnOk Tryz.prog 7 an167 167 Tryz.f167:=⟨Tryz.func167,by kernel_rfl,by kernel_rfl,by kernel_rfl,by kernel_rfl⟩
theorem ok168:fnOk Tryz.prog 7 an168 168 Tryz.f168:=⟨Tryz.func168,by kernel_rfl,by kernel_rfl,by kernel_rfl,by kernel_rfl⟩
theorem ok169:fnOk Tryz.prog 7 an169 169 Tryz.f169:=⟨Tryz.func169,by kernel_rfl,by kernel_rfl,by kernel_rfl,by kernel_rfl⟩
theorem ok170:fnOk Tryz.prog 7 an170 170 Tryz.f170:=⟨Tryz.func170,by kernel_rfl,by kernel_rfl,by kernel_rfl,by kernel_rfl⟩
theorem ok172:fnOk Tryz.prog 7 an172 172 Tryz.f172:=⟨Tryz.func172,by kernel_rfl,by kernel_rfl,by kernel_rfl,by kernel_rfl⟩
theorem ok178:fnOk Tryz.prog 7 an178 178 Tryz.f178:=⟨Tryz.func178,by kernel_rfl,by kernel_rfl,by kernel_rfl,by kernel_rfl⟩
theorem ok179:fnOk Tryz.prog 7 an179 179 Tryz.f179:=⟨Tryz.func179,by kernel_rfl,by kernel_rfl,by kernel_rfl,by kernel_rfl⟩
theorem ok180:fnOk Tryz.prog 7 an180 180 Tryz.f180:=⟨Tryz.func180,by kernel_rfl,by kernel_rfl,by kernel_rfl,by kernel_rfl⟩
theorem ok181:fnOk Tryz.prog 7 an181 181 Tryz.f181:=⟨Tryz.func181,by kernel_rfl,by kernel_rfl,by kernel_rfl,by kernel_rfl⟩
theorem ok182:fnOk Tryz.prog 7 an182 182 Tryz.f182:=⟨Tryz.func182,by kernel_rfl,by kernel_rfl,by kernel_rfl,by kernel_rfl⟩
theorem ok183:fnOk Tryz.prog 7 an183 183 Tryz.f183:=⟨Tryz.func183,by kernel_rfl,by kernel_rfl,by kernel_rfl,by kernel_rfl⟩
theorem ok185:fnOk Tryz.prog 7 an185 185 Tryz.f185:=⟨Tryz.func185,by kernel_rfl,by kernel_rfl,by kernel_rfl,by kernel_rfl⟩
theorem ok187:fnOk Tryz.prog 7 an187 187 Tryz.f187:=⟨Tryz.func187,by kernel_rfl,by kernel_rfl,by kernel_rfl,by kernel_rfl⟩
theorem ok192:fnOk Tryz.prog 7 an192 192 Tryz.f192:=⟨Tryz.func192,by kernel_rfl,by kernel_rfl,by kernel_rfl,by kernel_rfl⟩
theorem ok193:fnOk Tryz.prog 7 an193 193 Tryz.f193:=⟨Tryz.func193,by kernel_rfl,by kernel_rfl,by kernel_rfl,by kernel_rfl⟩
theorem ok194:fnOk Tryz.prog 7 an194 194 Tryz.f194:=⟨Tryz.func194,by kernel_rfl,by kernel_rfl,by kernel_rfl,by kernel_rfl⟩
theorem ok195:fnOk Tryz.prog 7 an195 195 Tryz.f195:=⟨Tryz.func195,by kernel_rfl,by kernel_rfl,by kernel_rfl,by kernel_rfl⟩
theorem ok196:fnOk Tryz.prog 7 an196 196 Tryz.f196:=⟨Tryz.func196,by kernel_rfl,by kernel_rfl,by kernel_rfl,by kernel_rfl⟩
theorem ok197:fnOk Tryz.prog 7 an197 197 Tryz.f197:=⟨Tryz.func197,by kernel_rfl,by kernel_rfl,by kernel_rfl,by kernel_rfl⟩
theorem ok198:fnOk Tryz.prog 7 an198 198 Tryz.f198:=⟨Tryz.func198,by kernel_rfl,by kernel_rfl,by kernel_rfl,by kernel_rfl⟩
theorem ok200:fnOk Tryz.prog 7 an200 200 Tryz.f200:=⟨Tryz.func200,by kernel_rfl,by kernel_rfl,by kernel_rfl,by kernel_rfl⟩
theorem ok204:fnOk Tryz.prog 7 an204 204 Tryz.f204:=⟨Tryz.func204,by kernel_rfl,by kernel_rfl,by kernel_rfl,by kernel_rfl⟩
theorem ok205:fnOk Tryz.prog 7 an205 205 Tryz.f205:=⟨Tryz.func205,by kernel_rfl,by kernel_rfl,by kernel_rfl,by kernel_rfl⟩
theorem tab_ok:∀ f fn an,tab f=some (fn,an)→fnOk Tryz.prog 7 an f fn:=by
 intro f fn an h
 unfold tab at h
 split at h
 ·cases h; exact ok3
 ·cases h; exact ok4
 ·cases h; exact ok5
 ·cases h; exact ok17
 ·cases h; exact ok18
 ·cases h; exact ok19
 ·cases h; exact ok20
 ·cases h; exact ok21
 ·cases h; exact ok22
 ·cases h; exact ok23
 ·cases h; exact ok24
 ·cases h; exact ok25
 ·cases h; exact ok26
 ·cases h; exact ok27
 ·cases h; exact ok28
 ·cases h; exact ok41
 ·cases h; exact ok47
 ·cases h; exact ok48
 ·cases h; exact ok51
 ·cases h; exact ok57
 ·cases h; exact ok58
 ·cases h; exact ok59
 ·cases h; exact ok60
 ·cases h; exact ok61
 ·cases h; exact ok62
 ·cases h; exact ok63
 ·cases h; exact ok64
 ·cases h; exact ok65
 ·cases h; exact ok66
 ·cases h; exact ok67
 ·cases h; exact ok68
 ·cases h; exact ok72
 ·cases h; exact ok73
 ·cases h; exact ok74
 ·cases h; exact ok75
 ·cases h; exact ok76
 ·cases h; exact ok77
 ·cases h; exact ok78
 ·cases h; exact ok79
 ·cases h; exact ok84
 ·cases h; exact ok85
 ·cases h; exact ok86
 ·cases h; exact ok94
 ·cases h; exact ok95
 ·cases h; exact ok96
 ·cases h; exact ok97
 ·cases h; exact ok98
 ·cases h; exact ok99
 ·cases h; exact ok100
 ·cases h; exact ok101
 ·cases h; exact ok102
 ·cases h; exact ok103
 ·cases h; exact ok104
 ·cases h; exact ok105
 ·cases h; exact ok106
 ·cases h; exact ok107
 ·cases h; exact ok108
 ·cases h; exact ok109
 ·cases h; exact ok110
 ·cases h; exact ok111
 ·cases h; exact ok119
 ·cases h; exact ok120
 ·cases h; exact ok122
 ·cases h; exact ok123
 ·cases h; exact ok133
 ·cases h; exact ok134
 ·cases h; exact ok135
 ·cases h; exact ok136
 ·cases h; exact ok137
 ·cases h; exact ok138
 ·cases h; exact ok139
 ·cases h; exact ok141
 ·cases h; exact ok142
 ·cases h; exact ok159
 ·cases h; exact ok160
 ·cases h; exact ok161
 ·cases h; exact ok162
 ·cases h; exact ok167
 ·cases h; exact ok168
 ·cases h; exact ok169
 ·cases h; exact ok170
 ·cases h; exact ok172
 ·cases h; exact ok178
 ·cases h; exact ok179
 ·cases h; exact ok180
 ·cases h; exact ok181
 ·cases h; exact ok182
 ·cases h; exact ok183
 ·cases h; exact ok185
 ·cases h; exact ok187
 ·cases h; exact ok192
 ·cases h; exact ok193
 ·cases h; exact ok194
 ·cases h; exact ok195
 ·cases h; exact ok196
 ·cases h; exact ok197
 ·cases h; exact ok198
 ·cases h; exact ok200
 ·cases h; exact ok204
 ·cases h; exact ok205
 ·cases h
end Go.Proofs.YtbfgadekkemlcaaGreatDoor.K
namespace Go.Proofs.YtbfgadekkemlcaaGreatDoor.K
open Go Go.Kx
namespace F59
noncomputable section
variable (P:Program) (cl:Cl) (nu mu:Nu) (h:H)
theorem eq:runX P cl nu an59 Tryz.f59 [] h=(cl (.f 94) [] h).go .pan fun t1 h=>(xbuild P 151 [(0,t1)] h).go .pan fun t2 h=>(xbox 151 t2 h).go .pan fun t3 h=>.ok t3 h:=by kernel_rfl
end
end F59
namespace F60
noncomputable section
variable (P:Program) (cl:Cl) (nu mu:Nu) (x0 x1:Value) (h:H)
noncomputable def s:=sub (bodyOf Tryz.f60)
noncomputable def k0:Ko:=kfn P Tryz.f60.results.toList
def k1:Ko:=kC P cl nu an60 (s [1,1,1]) (k0 P)
def j6:=mu 12 (evT P cl an60 nu (s [1,1,0,1,0,1,1]) (k1 P cl nu)) [(0,x0),(1,x1)] h
def j7:=mu 14 (evT P cl an60 nu (s [1,1,1]) (k0 P)) [(0,x0),(1,x1)] h
def k3:Ko:=kC P cl nu an60 (s [1,1,1,1]) (k0 P)
def k4:Ko:=kblk 0 (k3 P cl nu)
def l7:=mu 15 (lC P cl nu an60 [0,1] (s [1,1,1,0,0,0]) (k4 P cl nu)) [(0,x0),(1,x1)] h
def k5:Ko:=kL P cl nu an60 15 [0,1] (s [1,1,1,0,0,0]) (k4 P cl nu)
def j9:=mu 18 (evT P cl an60 nu (s [1,1,1,0,0,0,1]) (k5 P cl nu)) [(0,x0),(1,x1)] h
def j10:=mu 20 (evT P cl an60 nu (s [1,1,1,1]) (k0 P)) [(0,x0),(1,x1)] h
theorem j6_eq:j6 P cl nu nu0 x0 x1 h=(xnilCheck x0 h).ok1 fun t21 h=>(xfieldAddr P 151 t21 0 h).ok1 fun t22 h=>(xload P 147 t22 h).ok1 fun t23 h=>(xnilCheck x0 h).ok1 fun t24 h=>(xfieldAddr P 151 t24 1 h).ok1 fun t25 h=>(xslice P 149 t25 none none none h).ok1 fun t26 h=>(cl (.f 95) [t23,t26] h).go .pan fun t27 h=>(xnilCheck x0 h).ok1 fun t28 h=>(xfieldAddr P 151 t28 0 h).ok1 fun t29 h=>(xstore P 147 t29 t27 h).go .pan fun t30 h=>(j7 P cl nu nu x0 x1 h):=by kernel_rfl
theorem j7_eq:j7 P cl nu nu0 x0 x1 h=l7 P cl nu nu x0 x1 h:=by kernel_rfl
theorem l7n:evT P cl an60 nu (s [1,1,1,0,0,0]) (kL P cl nu an60 15 [0,1] (s [1,1,1,0,0,0]) (k4 P cl nu)) [(0,x0),(1,x1)] h=(xbuiltin P .len [71] [x1] h).go .pan fun t31 h=>(xbin P .geq 3 t31 (.int .i64 64) h).go .pan fun t32 h=>ifV t32 (j9 P cl nu nu x0 x1 h) (j10 P cl nu nu x0 x1 h):=by kernel_rfl
def l7_eq:=@id (l7 P cl nu0 nu0 x0 x1 h=_) (lpN (l7n P cl nu0 x0 x1 h))
theorem j9_eq:j9 P cl nu nu0 x0 x1 h=(xnilCheck x0 h).ok1 fun t33 h=>(xfieldAddr P 151 t33 0 h).ok1 fun t34 h=>(xload P 147 t34 h).ok1 fun t35 h=>(xslice P 71 x1 none (some (.int .i64 64)) none h).ok1 fun t36 h=>(cl (.f 95) [t35,t36] h).go .pan fun t37 h=>(xnilCheck x0 h).ok1 fun t38 h=>(xfieldAddr P 151 t38 0 h).ok1 fun t39 h=>(xstore P 147 t39 t37 h).go .pan fun t40 h=>(xslice P 71 x1 (some (.int .i64 64)) none none h).go .pan fun t41 h=>(l7 P cl nu nu x0 t41 h):=by kernel_rfl
theorem j10_eq:j10 P cl nu nu0 x0 x1 h=(xnilCheck x0 h).go .pan fun t42 h=>(xfieldAddr P 151 t42 1 h).go .pan fun t43 h=>(xslice P 149 t43 none none none h).go .pan fun t44 h=>(xbuiltin P .copy [71,71] [t44,x1] h).go .pan fun t45 h=>.ok (.tuple ⟨[]⟩) h:=by kernel_rfl
theorem eq:runX P cl nu an60 Tryz.f60 [x0,x1] h=(xnilCheck x0 h).go .pan fun t1 h=>(xfieldAddr P 151 t1 2 h).go .pan fun t2 h=>(xload P 3 t2 h).go .pan fun t3 h=>(xbin P .rem 3 t3 (.int .i64 64) h).go .pan fun t4 h=>(xnilCheck x0 h).go .pan fun t5 h=>(xfieldAddr P 151 t5 2 h).go .pan fun t6 h=>(xload P 3 t6 h).go .pan fun t7 h=>(xbuiltin P .len [71] [x1] h).go .pan fun t8 h=>(xbin P .add 3 t7 t8 h).go .pan fun t9 h=>(xnilCheck x0 h).go .pan fun t10 h=>(xfieldAddr P 151 t10 2 h).go .pan fun t11 h=>(xstore P 3 t11 t9 h).go .pan fun t12 h=>(xbin P .gtr 3 t4 (.int .i64 0) h).go .pan fun t13 h=>ifV t13 ((xnilCheck x0 h).go .pan fun t14 h=>(xfieldAddr P 151 t14 1 h).go .pan fun t15 h=>(xslice P 149 t15 (some t4) none none h).go .pan fun t16 h=>(xbuiltin P .copy [71,71] [t16,x1] h).go .pan fun t17 h=>(xslice P 71 x1 (some t17) none none h).go .pan fun t18 h=>(xbin P .add 3 t4 t17 h).go .pan fun t19 h=>(xbin P .lss 3 t19 (.int .i64 64) h).go .pan fun t20 h=>ifV t20 (.ok (.tuple ⟨[]⟩) h) (j6 P cl nu nu x0 t18 h)) (j7 P cl nu nu x0 x1 h):=by kernel_rfl
end
end F60
namespace F61
noncomputable section
variable (P:Program) (cl:Cl) (nu mu:Nu) (x0:Value) (h:H)
theorem eq:runX P cl nu an61 Tryz.f61 [x0] h=(xbuiltin P .len [71] [x0] h).go .pan fun t1 h=>(xconvert P 3 154 t1 h).go .pan fun t2 h=>(cl (.f 96) [t2] h).go .pan fun t3 h=>(xbuiltin P .append [71,71] [t3,x0] h).go .pan fun t4 h=>.ok t4 h:=by kernel_rfl
end
end F61
namespace F62
noncomputable section
variable (P:Program) (cl:Cl) (nu mu:Nu) (x0 x2 x3 x4 x5 x6 x44 x45 x46:Value) (h:H)
noncomputable def s:=sub (bodyOf Tryz.f62)
noncomputable def k0:Ko:=kfn P Tryz.f62.results.toList
def k1:Ko:=kC P cl nu an62 (s [1,1,1,1]) (k0 P)
def k2:Ko:=kblk 0 (k1 P cl nu)
def l3:=mu 7 (lC P cl nu an62 [0,2,3,4] (s [1,1,1,0,0,0]) (k2 P cl nu)) [(0,x0),(2,x2),(3,x3),(4,x4)] h
def j5:=mu 10 (evT P cl an62 nu (s [1,1,1,1]) (k0 P)) [(0,x0),(2,x2),(3,x3),(4,x4)] h
def k5:Ko:=kC P cl nu an62 (s [1,1,1,1,1]) (k0 P)
def k6:Ko:=kblk 2 (k5 P cl nu)
def l6:=mu 13 (lC P cl nu an62 [0,2,3,4,5] (s [1,1,1,1,0,1,0,0]) (k6 P cl nu)) [(0,x0),(2,x2),(3,x3),(4,x4),(5,x5)] h
def k7:Ko:=kL P cl nu an62 13 [0,2,3,4,5] (s [1,1,1,1,0,1,0,0]) (k6 P cl nu)
def j8:=mu 16 (evT P cl an62 nu (s [1,1,1,1,0,1,0,0,1]) (k7 P cl nu)) [(0,x0),(2,x2),(3,x3),(4,x4),(5,x5)] h
def j9:=mu 18 (evT P cl an62 nu (s [1,1,1,1,1]) (k0 P)) [(2,x2),(3,x3),(4,x4)] h
def k10:Ko:=kC P cl nu an62 (s [1,1,1,1,1,1,1,1]) (k0 P)
def k11:Ko:=kblk 4 (k10 P cl nu)
def l12:=mu 25 (lC P cl nu an62 [2,6,44,45] (s [1,1,1,1,1,1,1,0,1,0,0]) (k11 P cl nu)) [(2,x2),(6,x6),(44,x44),(45,x45)] h
def k12:Ko:=kL P cl nu an62 25 [2,6,44,45] (s [1,1,1,1,1,1,1,0,1,0,0]) (k11 P cl nu)
def j13:=mu 26 (evT P cl an62 nu (s [1,1,1,1,1,1,1,0,1,0,0,1]) (k12 P cl nu)) [(2,x2),(6,x6),(44,x44),(45,x45),(46,x46)] h
def j13_1:=mu 26 (evT P cl an62 nu (s [1,1,1,1,1,1,1,0,1,0,0,1,1]) (k12 P cl nu)) [(2,x2),(6,x6),(44,x44),(45,x45),(46,x46)] h
def j16:=mu 32 (evT P cl an62 nu (s [1,1,1,1,1,1,1,1]) (k0 P)) [(2,x2),(6,x6)] h
theorem l3n:evT P cl an62 nu (s [1,1,1,0,0,0]) (kL P cl nu an62 7 [0,2,3,4] (s [1,1,1,0,0,0]) (k2 P cl nu)) [(0,x0),(2,x2),(3,x3),(4,x4)] h=(xnilCheck x0 h).go .pan fun t7 h=>(xfieldAddr P 151 t7 2 h).go .pan fun t8 h=>(xload P 3 t8 h).go .pan fun t9 h=>(xbuiltin P .len [71] [x4] h).go .pan fun t10 h=>(xbin P .add 3 t9 t10 h).go .pan fun t11 h=>(xbin P .rem 3 t11 (.int .i64 64) h).go .pan fun t12 h=>(xbin P .neq 3 t12 (.int .i64 56) h).go .pan fun t13 h=>ifV t13 ((xbuildSlice P 71 1 [(0,(.int .u8 0))] h).go .pan fun t14 h=>(xbuiltin P .append [71,71] [x4,t14] h).go .pan fun t15 h=>(l3 P cl nu nu x0 x2 x3 t15 h)) (j5 P cl nu nu x0 x2 x3 x4 h):=by kernel_rfl
def l3_eq:=@id (l3 P cl nu0 nu0 x0 x2 x3 x4 h=_) (lpN (l3n P cl nu0 x0 x2 x3 x4 h))
theorem j5_eq:j5 P cl nu nu0 x0 x2 x3 x4 h=l6 P cl nu nu x0 x2 x3 x4 (.int .i64 56) h:=by kernel_rfl
theorem l6n:evT P cl an62 nu (s [1,1,1,1,0,1,0,0]) (kL P cl nu an62 13 [0,2,3,4,5] (s [1,1,1,1,0,1,0,0]) (k6 P cl nu)) [(0,x0),(2,x2),(3,x3),(4,x4),(5,x5)] h=(xbin P .geq 3 x5 (.int .i64 0) h).go .pan fun t16 h=>ifV t16 (j8 P cl nu nu x0 x2 x3 x4 x5 h) (j9 P cl nu nu x2 x3 x4 h):=by kernel_rfl
def l6_eq:=@id (l6 P cl nu0 nu0 x0 x2 x3 x4 x5 h=_) (lpN (l6n P cl nu0 x0 x2 x3 x4 x5 h))
theorem j8_eq:j8 P cl nu nu0 x0 x2 x3 x4 x5 h=(xnilCheck x0 h).go .pan fun t17 h=>(xfieldAddr P 151 t17 2 h).go .pan fun t18 h=>(xload P 3 t18 h).go .pan fun t19 h=>(xconvert P 3 154 t19 h).go .pan fun t20 h=>(xbin P .mul 154 (.int .u64 8) t20 h).go .pan fun t21 h=>(xbin P .shr 154 t21 x5 h).go .pan fun t22 h=>(xconvert P 154 5 t22 h).go .pan fun t23 h=>(xbuildSlice P 71 1 [(0,t23)] h).go .pan fun t24 h=>(xbuiltin P .append [71,71] [x4,t24] h).go .pan fun t25 h=>(xbin P .sub 3 x5 (.int .i64 8) h).go .pan fun t26 h=>(l6 P cl nu nu x0 x2 x3 t25 t26 h):=by kernel_rfl
theorem j9_eq:j9 P cl nu nu0 x2 x3 x4 h=(cl (.f 60) [x3,x4] h).go .pan fun t27 h=>(xalloc P 32 h).go .pan fun t28 h=>(xfieldAddr P 151 x3 0 h).go .pan fun t29 h=>(xload P 147 t29 h).go .pan fun t30 h=>(l12 P cl nu nu x2 t28 t30 (.int .i64 0) h):=by kernel_rfl
theorem l12n:evT P cl an62 nu (s [1,1,1,1,1,1,1,0,1,0,0]) (kL P cl nu an62 25 [2,6,44,45] (s [1,1,1,1,1,1,1,0,1,0,0]) (k11 P cl nu)) [(2,x2),(6,x6),(44,x44),(45,x45)] h=(xbin P .lss 3 x45 (.int .i64 8) h).go .pan fun t31 h=>(j13 P cl nu nu x2 x6 x44 x45 t31 h):=by kernel_rfl
def l12_eq:=@id (l12 P cl nu0 nu0 x2 x6 x44 x45 h=_) (lpN (l12n P cl nu0 x2 x6 x44 x45 h))
theorem j13_eq:j13 P cl nu nu0 x2 x6 x44 x45 x46 h=ifV x46 (j13_1 P cl nu nu x2 x6 x44 x45 x46 h) (j16 P cl nu nu x2 x6 h):=by kernel_rfl
theorem j13_1_eq:j13_1 P cl nu nu0 x2 x6 x44 x45 x46 h=(xindex P 147 x44 x45 h).go .pan fun t32 h=>(xbin P .mul 3 (.int .i64 4) x45 h).go .pan fun t33 h=>(xbin P .mul 3 (.int .i64 4) x45 h).go .pan fun t34 h=>(xbin P .add 3 t34 (.int .i64 1) h).go .pan fun t35 h=>(xbin P .mul 3 (.int .i64 4) x45 h).go .pan fun t36 h=>(xbin P .add 3 t36 (.int .i64 2) h).go .pan fun t37 h=>(xbin P .mul 3 (.int .i64 4) x45 h).go .pan fun t38 h=>(xbin P .add 3 t38 (.int .i64 3) h).go .pan fun t39 h=>(xbin P .shr 145 t32 (.int .u64 24) h).go .pan fun t40 h=>(xconvert P 145 5 t40 h).go .pan fun t41 h=>(xbin P .shr 145 t32 (.int .u64 16) h).go .pan fun t42 h=>(xconvert P 145 5 t42 h).go .pan fun t43 h=>(xbin P .shr 145 t32 (.int .u64 8) h).go .pan fun t44 h=>(xconvert P 145 5 t44 h).go .pan fun t45 h=>(xconvert P 145 5 t32 h).go .pan fun t46 h=>(xindexAddr P 32 x6 t33 h).go .pan fun t47 h=>(xstore P 5 t47 t41 h).go .pan fun t48 h=>(xindexAddr P 32 x6 t35 h).go .pan fun t49 h=>(xstore P 5 t49 t43 h).go .pan fun t50 h=>(xindexAddr P 32 x6 t37 h).go .pan fun t51 h=>(xstore P 5 t51 t45 h).go .pan fun t52 h=>(xindexAddr P 32 x6 t39 h).go .pan fun t53 h=>(xstore P 5 t53 t46 h).go .pan fun t54 h=>(xbin P .add 3 x45 (.int .i64 1) h).go .pan fun t55 h=>(l12 P cl nu nu x2 x6 x44 t55 h):=by kernel_rfl
theorem j16_eq:j16 P cl nu nu0 x2 x6 h=(xload P 32 x6 h).go .pan fun t56 h=>(xstore P 32 x2 t56 h).go .pan fun t57 h=>kfn P Tryz.f62.results.toList .normal [(2,x2)] h:=by kernel_rfl
theorem eq:runX P cl nu an62 Tryz.f62 [x0] h=(xalloc P 32 h).go .pan fun t1 h=>(xnilCheck x0 h).go .pan fun t2 h=>(xload P 151 t2 h).go .pan fun t3 h=>(xalloc P 151 h).go .pan fun t4 h=>(xstore P 151 t4 t3 h).go .pan fun t5 h=>(xbuildSlice P 71 1 [(0,(.int .u8 128))] h).go .pan fun t6 h=>(l3 P cl nu nu x0 t1 t4 t6 h):=by kernel_rfl
end
end F62
namespace F65
noncomputable section
variable (P:Program) (cl:Cl) (nu mu:Nu) (x0 x1 x5 x6 x7 x8:Value) (h:H)
noncomputable def s:=sub (bodyOf Tryz.f65)
noncomputable def k0:Ko:=kfn P Tryz.f65.results.toList
def k1:Ko:=kC P cl nu an65 (s [1,1,1]) (k0 P)
def k2:Ko:=kblk 0 (k1 P cl nu)
def l3:=mu 7 (lC P cl nu an65 [1,5,6] (s [1,1,0,1,0,0]) (k2 P cl nu)) [(1,x1),(5,x5),(6,x6)] h
def k3:Ko:=kL P cl nu an65 7 [1,5,6] (s [1,1,0,1,0,0]) (k2 P cl nu)
def j5:=mu 10 (evT P cl an65 nu (s [1,1,0,1,0,0,1]) (k3 P cl nu)) [(1,x1),(5,x5),(6,x6)] h
def k5:Ko:=kC P cl nu an65 (s [1,1,0,1,0,0,1,1]) (k3 P cl nu)
def k6:Ko:=kblk 1 (k5 P cl nu)
def k7:Ko:=kC P cl nu an65 (s [1,1,0,1,0,0,1,0,0,1,1]) (k6 P cl nu)
def k8:Ko:=kblk 2 (k7 P cl nu)
def j11:=mu 22 (evT P cl an65 nu (s [1,1,1]) (k0 P)) [(5,x5)] h
def l7:=mu 15 (lC P cl nu an65 [1,5,6,7,8] (s [1,1,0,1,0,0,1,0,0,1,0,1,0,0]) (k8 P cl nu)) [(1,x1),(5,x5),(6,x6),(7,x7),(8,x8)] h
def k9:Ko:=kL P cl nu an65 15 [1,5,6,7,8] (s [1,1,0,1,0,0,1,0,0,1,0,1,0,0]) (k8 P cl nu)
def j9:=mu 18 (evT P cl an65 nu (s [1,1,0,1,0,0,1,0,0,1,0,1,0,0,1]) (k9 P cl nu)) [(1,x1),(5,x5),(6,x6),(7,x7),(8,x8)] h
def j10:=mu 20 (evT P cl an65 nu (s [1,1,0,1,0,0,1,0,0,1,1]) (k6 P cl nu)) [(1,x1),(5,x5),(6,x6),(7,x7)] h
def j4:=mu 8 (evT P cl an65 nu (s [1,1,0,1,0,0,1,1]) (k3 P cl nu)) [(1,x1),(5,x5),(6,x6)] h
theorem l3n:evT P cl an65 nu (s [1,1,0,1,0,0]) (kL P cl nu an65 7 [1,5,6] (s [1,1,0,1,0,0]) (k2 P cl nu)) [(1,x1),(5,x5),(6,x6)] h=(xbuiltin P .len [26] [x1] h).go .pan fun t3 h=>(xbin P .lss 3 x6 t3 h).go .pan fun t4 h=>ifV t4 (j5 P cl nu nu x1 x5 x6 h) (j11 P cl nu nu x5 h):=by kernel_rfl
def l3_eq:=@id (l3 P cl nu0 nu0 x1 x5 x6 h=_) (lpN (l3n P cl nu0 x1 x5 x6 h))
theorem j5_eq:j5 P cl nu nu0 x1 x5 x6 h=l7 P cl nu nu x1 x5 x6 (.slice none 0 0) (.int .i64 0) h:=by kernel_rfl
theorem j11_eq:j11 P cl nu nu0 x5 h = .ok x5 h:=by kernel_rfl
theorem l7n:evT P cl an65 nu (s [1,1,0,1,0,0,1,0,0,1,0,1,0,0]) (kL P cl nu an65 15 [1,5,6,7,8] (s [1,1,0,1,0,0,1,0,0,1,0,1,0,0]) (k8 P cl nu)) [(1,x1),(5,x5),(6,x6),(7,x7),(8,x8)] h=(xbin P .lss 3 x8 (.int .i64 32) h).go .pan fun t5 h=>ifV t5 (j9 P cl nu nu x1 x5 x6 x7 x8 h) (j10 P cl nu nu x1 x5 x6 x7 h):=by kernel_rfl
def l7_eq:=@id (l7 P cl nu0 nu0 x1 x5 x6 x7 x8 h=_) (lpN (l7n P cl nu0 x1 x5 x6 x7 x8 h))
theorem j9_eq:j9 P cl nu nu0 x1 x5 x6 x7 x8 h=(xindexAddr P 26 x1 x6 h).go .pan fun t6 h=>(xindexAddr P 32 t6 x8 h).go .pan fun t7 h=>(xload P 5 t7 h).go .pan fun t8 h=>(xbuildSlice P 71 1 [(0,t8)] h).go .pan fun t9 h=>(xbuiltin P .append [71,71] [x7,t9] h).go .pan fun t10 h=>(xbin P .add 3 x8 (.int .i64 1) h).go .pan fun t11 h=>(l7 P cl nu nu x1 x5 x6 t10 t11 h):=by kernel_rfl
theorem j10_eq:j10 P cl nu nu0 x1 x5 x6 x7 h=(cl (.f 97) [x5,x7] h).go .pan fun t12 h=>(j4 P cl nu nu x1 t12 x6 h):=by kernel_rfl
theorem j4_eq:j4 P cl nu nu0 x1 x5 x6 h=(xbin P .add 3 x6 (.int .i64 1) h).go .pan fun t13 h=>(l3 P cl nu nu x1 x5 t13 h):=by kernel_rfl
theorem eq:runX P cl nu an65 Tryz.f65 [x0,x1] h=(xconvert P 9 71 x0 h).go .pan fun t1 h=>(cl (.f 97) [(.slice none 0 0),t1] h).go .pan fun t2 h=>(l3 P cl nu nu x1 t2 (.int .i64 0) h):=by kernel_rfl
end
end F65
namespace F66
noncomputable section
variable (P:Program) (cl:Cl) (nu mu:Nu) (x0 x2 x3 x4 x5 x6 x7 x8 x9:Value) (h:H)
noncomputable def s:=sub (bodyOf Tryz.f66)
noncomputable def k0:Ko:=kfn P Tryz.f66.results.toList
def k1:Ko:=kC P cl nu an66 (s [1,1,1,1,1]) (k0 P)
def k2:Ko:=kblk 0 (k1 P cl nu)
def l5:=mu 11 (lC P cl nu an66 [2,3,4,5,6] (s [1,1,1,1,0,1,0,0]) (k2 P cl nu)) [(2,x2),(3,x3),(4,x4),(5,x5),(6,x6)] h
def k3:Ko:=kL P cl nu an66 11 [2,3,4,5,6] (s [1,1,1,1,0,1,0,0]) (k2 P cl nu)
def j7:=mu 14 (evT P cl an66 nu (s [1,1,1,1,0,1,0,0,1]) (k3 P cl nu)) [(2,x2),(3,x3),(4,x4),(5,x5),(6,x6)] h
def j8:=mu 16 (evT P cl an66 nu (s [1,1,1,1,1]) (k0 P)) [(2,x2),(3,x3)] h
def k6:Ko:=kC P cl nu an66 (s [1,1,1,1,1,1,1]) (k0 P)
def k7:Ko:=kblk 2 (k6 P cl nu)
def l10:=mu 21 (lC P cl nu an66 [2,3,7,8] (s [1,1,1,1,1,1,0,1,0,0]) (k7 P cl nu)) [(2,x2),(3,x3),(7,x7),(8,x8)] h
def k8:Ko:=kL P cl nu an66 21 [2,3,7,8] (s [1,1,1,1,1,1,0,1,0,0]) (k7 P cl nu)
def j12:=mu 24 (evT P cl an66 nu (s [1,1,1,1,1,1,0,1,0,0,1]) (k8 P cl nu)) [(2,x2),(3,x3),(7,x7),(8,x8)] h
def k10:Ko:=kC P cl nu an66 (s [1,1,1,1,1,1,0,1,0,0,1,1]) (k8 P cl nu)
def k11:Ko:=kblk 3 (k10 P cl nu)
def k12:Ko:=kblk 4 (k11 P cl nu)
def j16:=mu 32 (evT P cl an66 nu (s [1,1,1,1,1,1,1]) (k0 P)) [(2,x2),(7,x7)] h
def l13:=mu 27 (lC P cl nu an66 [2,3,7,8,9] (s [1,1,1,1,1,1,0,1,0,0,1,0,0,1,0,0]) (k12 P cl nu)) [(2,x2),(3,x3),(7,x7),(8,x8),(9,x9)] h
def k13:Ko:=kL P cl nu an66 27 [2,3,7,8,9] (s [1,1,1,1,1,1,0,1,0,0,1,0,0,1,0,0]) (k12 P cl nu)
def j15:=mu 30 (evT P cl an66 nu (s [1,1,1,1,1,1,0,1,0,0,1,0,0,1,0,0,1]) (k13 P cl nu)) [(2,x2),(3,x3),(7,x7),(8,x8),(9,x9)] h
def j11:=mu 22 (evT P cl an66 nu (s [1,1,1,1,1,1,0,1,0,0,1,1]) (k8 P cl nu)) [(2,x2),(3,x3),(7,x7),(8,x8)] h
theorem l5n:evT P cl an66 nu (s [1,1,1,1,0,1,0,0]) (kL P cl nu an66 11 [2,3,4,5,6] (s [1,1,1,1,0,1,0,0]) (k2 P cl nu)) [(2,x2),(3,x3),(4,x4),(5,x5),(6,x6)] h=(xbuiltin P .len [71] [x5] h).go .pan fun t9 h=>(xbin P .lss 3 x6 t9 h).go .pan fun t10 h=>ifV t10 (j7 P cl nu nu x2 x3 x4 x5 x6 h) (j8 P cl nu nu x2 x3 h):=by kernel_rfl
def l5_eq:=@id (l5 P cl nu0 nu0 x2 x3 x4 x5 x6 h=_) (lpN (l5n P cl nu0 x2 x3 x4 x5 x6 h))
theorem j7_eq:j7 P cl nu nu0 x2 x3 x4 x5 x6 h=(xload P 146 x3 h).go .pan fun t11 h=>(xload P 156 x4 h).go .pan fun t12 h=>(cl (.f 100) [t11,x5,x6,t12] h).go .pan fun t13 h=>(xstore P 146 x3 t13 h).go .pan fun t14 h=>(xbin P .add 3 x6 (.int .i64 64) h).go .pan fun t15 h=>(l5 P cl nu nu x2 x3 x4 x5 t15 h):=by kernel_rfl
theorem j8_eq:j8 P cl nu nu0 x2 x3 h=(xalloc P 32 h).go .pan fun t16 h=>(l10 P cl nu nu x2 x3 t16 (.int .i64 0) h):=by kernel_rfl
theorem l10n:evT P cl an66 nu (s [1,1,1,1,1,1,0,1,0,0]) (kL P cl nu an66 21 [2,3,7,8] (s [1,1,1,1,1,1,0,1,0,0]) (k7 P cl nu)) [(2,x2),(3,x3),(7,x7),(8,x8)] h=(xbin P .lss 3 x8 (.int .i64 8) h).go .pan fun t17 h=>ifV t17 (j12 P cl nu nu x2 x3 x7 x8 h) (j16 P cl nu nu x2 x7 h):=by kernel_rfl
def l10_eq:=@id (l10 P cl nu0 nu0 x2 x3 x7 x8 h=_) (lpN (l10n P cl nu0 x2 x3 x7 x8 h))
theorem j12_eq:j12 P cl nu nu0 x2 x3 x7 x8 h=l13 P cl nu nu x2 x3 x7 x8 (.int .i64 0) h:=by kernel_rfl
theorem j16_eq:j16 P cl nu nu0 x2 x7 h=(xload P 32 x7 h).go .pan fun t18 h=>(xstore P 32 x2 t18 h).go .pan fun t19 h=>kfn P Tryz.f66.results.toList .normal [(2,x2)] h:=by kernel_rfl
theorem l13n:evT P cl an66 nu (s [1,1,1,1,1,1,0,1,0,0,1,0,0,1,0,0]) (kL P cl nu an66 27 [2,3,7,8,9] (s [1,1,1,1,1,1,0,1,0,0,1,0,0,1,0,0]) (k12 P cl nu)) [(2,x2),(3,x3),(7,x7),(8,x8),(9,x9)] h=(xbin P .lss 3 x9 (.int .i64 4) h).go .pan fun t20 h=>ifV t20 (j15 P cl nu nu x2 x3 x7 x8 x9 h) (j11 P cl nu nu x2 x3 x7 x8 h):=by kernel_rfl
def l13_eq:=@id (l13 P cl nu0 nu0 x2 x3 x7 x8 x9 h=_) (lpN (l13n P cl nu0 x2 x3 x7 x8 x9 h))
theorem j15_eq:j15 P cl nu nu0 x2 x3 x7 x8 x9 h=(xbin P .mul 3 (.int .i64 4) x8 h).go .pan fun t21 h=>(xbin P .add 3 t21 x9 h).go .pan fun t22 h=>(xindexAddr P 146 x3 x8 h).go .pan fun t23 h=>(xload P 145 t23 h).go .pan fun t24 h=>(xconvert P 3 73 x9 h).go .pan fun t25 h=>(xbin P .mul 73 (.int .u64 8) t25 h).go .pan fun t26 h=>(xbin P .sub 73 (.int .u64 24) t26 h).go .pan fun t27 h=>(xbin P .shr 145 t24 t27 h).go .pan fun t28 h=>(xconvert P 145 5 t28 h).go .pan fun t29 h=>(xindexAddr P 32 x7 t22 h).go .pan fun t30 h=>(xstore P 5 t30 t29 h).go .pan fun t31 h=>(xbin P .add 3 x9 (.int .i64 1) h).go .pan fun t32 h=>(l13 P cl nu nu x2 x3 x7 x8 t32 h):=by kernel_rfl
theorem j11_eq:j11 P cl nu nu0 x2 x3 x7 x8 h=(xbin P .add 3 x8 (.int .i64 1) h).go .pan fun t33 h=>(l10 P cl nu nu x2 x3 x7 t33 h):=by kernel_rfl
theorem eq:runX P cl nu an66 Tryz.f66 [x0] h=(xalloc P 32 h).go .pan fun t1 h=>(xbuild P 146 [(0,(.int .u32 1779033703)),(1,(.int .u32 3144134277)),(2,(.int .u32 1013904242)),(3,(.int .u32 2773480762)),(4,(.int .u32 1359893119)),(5,(.int .u32 2600822924)),(6,(.int .u32 528734635)),(7,(.int .u32 1541459225))] h).go .pan fun t2 h=>(xalloc P 146 h).go .pan fun t3 h=>(xstore P 146 t3 t2 h).go .pan fun t4 h=>(cl (.f 98) [] h).go .pan fun t5 h=>(xalloc P 156 h).go .pan fun t6 h=>(xstore P 156 t6 t5 h).go .pan fun t7 h=>(cl (.f 99) [x0] h).go .pan fun t8 h=>(l5 P cl nu nu t1 t3 t6 t8 (.int .i64 0) h):=by kernel_rfl
end
end F66
namespace F94
noncomputable section
variable (P:Program) (cl:Cl) (nu mu:Nu) (h:H)
theorem eq:runX P cl nu an94 Tryz.f94 [] h=(xalloc P 147 h).go .pan fun t1 h=>(xbuild P 147 [(0,(.int .u32 1779033703)),(1,(.int .u32 3144134277)),(2,(.int .u32 1013904242)),(3,(.int .u32 2773480762)),(4,(.int .u32 1359893119)),(5,(.int .u32 2600822924)),(6,(.int .u32 528734635)),(7,(.int .u32 1541459225))] h).go .pan fun t2 h=>(xstore P 147 t1 t2 h).go .pan fun t3 h=>kfn P Tryz.f94.results.toList .normal [(0,t1)] h:=by kernel_rfl
end
end F94
namespace F95
noncomputable section
variable (P:Program) (cl:Cl) (nu mu:Nu) (x0 x1 x2 x4 x5 x6 x14 x15 x105 x106:Value) (h:H)
noncomputable def s:=sub (bodyOf Tryz.f95)
noncomputable def k0:Ko:=kfn P Tryz.f95.results.toList
def k1:Ko:=kC P cl nu an95 (s [1,1,1,1]) (k0 P)
def k2:Ko:=kblk 0 (k1 P cl nu)
def l4:=mu 9 (lC P cl nu an95 [2,4,5,6,14] (s [1,1,1,0,1,0,0]) (k2 P cl nu)) [(2,x2),(4,x4),(5,x5),(6,x6),(14,x14)] h
def k3:Ko:=kL P cl nu an95 9 [2,4,5,6,14] (s [1,1,1,0,1,0,0]) (k2 P cl nu)
def j5:=mu 10 (evT P cl an95 nu (s [1,1,1,0,1,0,0,1]) (k3 P cl nu)) [(2,x2),(4,x4),(5,x5),(6,x6),(14,x14),(15,x15)] h
def j5_1:=mu 10 (evT P cl an95 nu (s [1,1,1,0,1,0,0,1,1]) (k3 P cl nu)) [(2,x2),(4,x4),(5,x5),(6,x6),(14,x14),(15,x15)] h
def j13:=mu 26 (evT P cl an95 nu (s [1,1,1,1]) (k0 P)) [(2,x2),(4,x4),(6,x6)] h
def k6:Ko:=kC P cl nu an95 (s [1,1,1,1,1]) (k0 P)
def k7:Ko:=kblk 2 (k6 P cl nu)
def l14:=mu 29 (lC P cl nu an95 [2,4,6,105] (s [1,1,1,1,0,1,0,0]) (k7 P cl nu)) [(2,x2),(4,x4),(6,x6),(105,x105)] h
def k8:Ko:=kL P cl nu an95 29 [2,4,6,105] (s [1,1,1,1,0,1,0,0]) (k7 P cl nu)
def j15:=mu 30 (evT P cl an95 nu (s [1,1,1,1,0,1,0,0,1]) (k8 P cl nu)) [(2,x2),(4,x4),(6,x6),(105,x105),(106,x106)] h
def j15_1:=mu 30 (evT P cl an95 nu (s [1,1,1,1,0,1,0,0,1,1]) (k8 P cl nu)) [(2,x2),(4,x4),(6,x6),(105,x105),(106,x106)] h
def j18:=mu 36 (evT P cl an95 nu (s [1,1,1,1,1]) (k0 P)) [(2,x2),(4,x4)] h
theorem l4n:evT P cl an95 nu (s [1,1,1,0,1,0,0]) (kL P cl nu an95 9 [2,4,5,6,14] (s [1,1,1,0,1,0,0]) (k2 P cl nu)) [(2,x2),(4,x4),(5,x5),(6,x6),(14,x14)] h=(xbin P .lss 3 x14 (.int .i64 64) h).go .pan fun t9 h=>(j5 P cl nu nu x2 x4 x5 x6 x14 t9 h):=by kernel_rfl
def l4_eq:=@id (l4 P cl nu0 nu0 x2 x4 x5 x6 x14 h=_) (lpN (l4n P cl nu0 x2 x4 x5 x6 x14 h))
theorem j5_eq:j5 P cl nu nu0 x2 x4 x5 x6 x14 x15 h=ifV x15 (j5_1 P cl nu nu x2 x4 x5 x6 x14 x15 h) (j13 P cl nu nu x2 x4 x6 h):=by kernel_rfl
theorem j5_1_eq:j5_1 P cl nu nu0 x2 x4 x5 x6 x14 x15 h=(xindexAddr P 147 x6 (.int .i64 7) h).ok1 fun t10 h=>(xload P 145 t10 h).ok1 fun t11 h=>(xindexAddr P 156 x5 x14 h).ok1 fun t12 h=>(xload P 145 t12 h).ok1 fun t13 h=>bif plain2 t11 t13 then ((xbin P .add 145 t11 t13 h).ok1 fun t14 h=>(xindexAddr P 156 (.pointer (some ⟨0,0,none⟩)) x14 h).ok1 fun t15 h=>(xload P 145 t15 h).ok1 fun t16 h=>bif plain2 t14 t16 then ((xbin P .add 145 t14 t16 h).ok1 fun t17 h=>(xindexAddr P 147 x6 (.int .i64 4) h).ok1 fun t18 h=>(xload P 145 t18 h).ok1 fun t19 h=>(xindexAddr P 147 x6 (.int .i64 4) h).ok1 fun t20 h=>(xload P 145 t20 h).ok1 fun t21 h=>(xindexAddr P 147 x6 (.int .i64 4) h).ok1 fun t22 h=>(xload P 145 t22 h).ok1 fun t23 h=>(cl (.f 134) [t19,(.int .i64 6)] h).go .pan fun t24 h=>bif (rc (xload P 145 t20 h) (some t21)&&(rc (xload P 145 t22 h) (some t23)&&true)) then ((cl (.f 134) [t21,(.int .i64 11)] h).go .pan fun t25 h=>bif (rc (xload P 145 t22 h) (some t23)&&true) then (bif plain2 t24 t25 then ((xbin P .xor 145 t24 t25 h).ok1 fun t26 h=>(cl (.f 134) [t23,(.int .i64 25)] h).go .pan fun t27 h=>bif plain2 t26 t27 then ((xbin P .xor 145 t26 t27 h).ok1 fun t28 h=>bif plain2 t17 t28 then ((xbin P .add 145 t17 t28 h).ok1 fun t29 h=>(xindexAddr P 147 x6 (.int .i64 4) h).go .pan fun t30 h=>(xload P 145 t30 h).go .pan fun t31 h=>(xindexAddr P 147 x6 (.int .i64 5) h).go .pan fun t32 h=>(xload P 145 t32 h).go .pan fun t33 h=>(xbin P .and 145 t31 t33 h).go .pan fun t34 h=>(xindexAddr P 147 x6 (.int .i64 4) h).go .pan fun t35 h=>(xload P 145 t35 h).go .pan fun t36 h=>(xun P .xor t36 h).go .pan fun t37 h=>(xindexAddr P 147 x6 (.int .i64 6) h).go .pan fun t38 h=>(xload P 145 t38 h).go .pan fun t39 h=>(xbin P .and 145 t37 t39 h).go .pan fun t40 h=>(xbin P .xor 145 t34 t40 h).go .pan fun t41 h=>(xbin P .add 145 t29 t41 h).go .pan fun t42 h=>(xindexAddr P 147 x6 (.int .i64 0) h).ok1 fun t43 h=>(xload P 145 t43 h).ok1 fun t44 h=>(xindexAddr P 147 x6 (.int .i64 0) h).ok1 fun t45 h=>(xload P 145 t45 h).ok1 fun t46 h=>(xindexAddr P 147 x6 (.int .i64 0) h).ok1 fun t47 h=>(xload P 145 t47 h).ok1 fun t48 h=>(cl (.f 134) [t44,(.int .i64 2)] h).go .pan fun t49 h=>bif (rc (xload P 145 t45 h) (some t46)&&(rc (xload P 145 t47 h) (some t48)&&true)) then ((cl (.f 134) [t46,(.int .i64 13)] h).go .pan fun t50 h=>bif (rc (xload P 145 t47 h) (some t48)&&true) then (bif plain2 t49 t50 then ((xbin P .xor 145 t49 t50 h).ok1 fun t51 h=>(cl (.f 134) [t48,(.int .i64 22)] h).go .pan fun t52 h=>bif plain2 t51 t52 then ((xbin P .xor 145 t51 t52 h).ok1 fun t53 h=>(xindexAddr P 147 x6 (.int .i64 0) h).go .pan fun t54 h=>(xload P 145 t54 h).go .pan fun t55 h=>(xindexAddr P 147 x6 (.int .i64 1) h).go .pan fun t56 h=>(xload P 145 t56 h).go .pan fun t57 h=>(xbin P .and 145 t55 t57 h).go .pan fun t58 h=>(xindexAddr P 147 x6 (.int .i64 0) h).go .pan fun t59 h=>(xload P 145 t59 h).go .pan fun t60 h=>(xindexAddr P 147 x6 (.int .i64 2) h).go .pan fun t61 h=>(xload P 145 t61 h).go .pan fun t62 h=>(xbin P .and 145 t60 t62 h).go .pan fun t63 h=>(xbin P .xor 145 t58 t63 h).go .pan fun t64 h=>(xindexAddr P 147 x6 (.int .i64 1) h).go .pan fun t65 h=>(xload P 145 t65 h).go .pan fun t66 h=>(xindexAddr P 147 x6 (.int .i64 2) h).go .pan fun t67 h=>(xload P 145 t67 h).go .pan fun t68 h=>(xbin P .and 145 t66 t68 h).go .pan fun t69 h=>(xbin P .xor 145 t64 t69 h).go .pan fun t70 h=>(xbin P .add 145 t53 t70 h).go .pan fun t71 h=>(xbin P .add 145 t42 t71 h).go .pan fun t72 h=>(xindexAddr P 147 x6 (.int .i64 0) h).go .pan fun t73 h=>(xload P 145 t73 h).go .pan fun t74 h=>(xindexAddr P 147 x6 (.int .i64 1) h).go .pan fun t75 h=>(xload P 145 t75 h).go .pan fun t76 h=>(xindexAddr P 147 x6 (.int .i64 2) h).go .pan fun t77 h=>(xload P 145 t77 h).go .pan fun t78 h=>(xindexAddr P 147 x6 (.int .i64 3) h).go .pan fun t79 h=>(xload P 145 t79 h).go .pan fun t80 h=>(xbin P .add 145 t80 t42 h).go .pan fun t81 h=>(xindexAddr P 147 x6 (.int .i64 4) h).go .pan fun t82 h=>(xload P 145 t82 h).go .pan fun t83 h=>(xindexAddr P 147 x6 (.int .i64 5) h).go .pan fun t84 h=>(xload P 145 t84 h).go .pan fun t85 h=>(xindexAddr P 147 x6 (.int .i64 6) h).go .pan fun t86 h=>(xload P 145 t86 h).go .pan fun t87 h=>(xbuild P 147 [(0,t72),(1,t74),(2,t76),(3,t78),(4,t81),(5,t83),(6,t85),(7,t87)] h).go .pan fun t88 h=>(xstore P 147 x6 t88 h).go .pan fun t89 h=>(xbin P .add 3 x14 (.int .i64 1) h).go .pan fun t90 h=>(l4 P cl nu nu x2 x4 x5 x6 t90 h)) else .bad) else .bad) else .bad) else .bad) else .bad) else .bad) else .bad) else .bad) else .bad) else .bad) else .bad:=by kernel_rfl
theorem j13_eq:j13 P cl nu nu0 x2 x4 x6 h=l14 P cl nu nu x2 x4 x6 (.int .i64 0) h:=by kernel_rfl
theorem l14n:evT P cl an95 nu (s [1,1,1,1,0,1,0,0]) (kL P cl nu an95 29 [2,4,6,105] (s [1,1,1,1,0,1,0,0]) (k7 P cl nu)) [(2,x2),(4,x4),(6,x6),(105,x105)] h=(xbin P .lss 3 x105 (.int .i64 8) h).go .pan fun t91 h=>(j15 P cl nu nu x2 x4 x6 x105 t91 h):=by kernel_rfl
def l14_eq:=@id (l14 P cl nu0 nu0 x2 x4 x6 x105 h=_) (lpN (l14n P cl nu0 x2 x4 x6 x105 h))
theorem j15_eq:j15 P cl nu nu0 x2 x4 x6 x105 x106 h=ifV x106 (j15_1 P cl nu nu x2 x4 x6 x105 x106 h) (j18 P cl nu nu x2 x4 h):=by kernel_rfl
theorem j15_1_eq:j15_1 P cl nu nu0 x2 x4 x6 x105 x106 h=(xindexAddr P 147 x2 x105 h).ok1 fun t92 h=>(xload P 145 t92 h).ok1 fun t93 h=>(xindexAddr P 147 x6 x105 h).ok1 fun t94 h=>(xload P 145 t94 h).ok1 fun t95 h=>bif plain2 t93 t95 then ((xbin P .add 145 t93 t95 h).ok1 fun t96 h=>(xindexAddr P 147 x2 x105 h).ok1 fun t97 h=>(xstore P 145 t97 t96 h).go .pan fun t98 h=>(xbin P .add 3 x105 (.int .i64 1) h).go .pan fun t99 h=>(l14 P cl nu nu x2 x4 x6 t99 h)) else .bad:=by kernel_rfl
theorem j18_eq:j18 P cl nu nu0 x2 x4 h=(xload P 147 x2 h).go .pan fun t100 h=>(xstore P 147 x4 t100 h).go .pan fun t101 h=>kfn P Tryz.f95.results.toList .normal [(4,x4)] h:=by kernel_rfl
theorem eq:runX P cl nu an95 Tryz.f95 [x0,x1] h=(xbox 147 x0 h).go .pan fun t1 h=>(xalloc P 147 h).go .pan fun t2 h=>(cl (.f 133) [x1] h).go .pan fun t3 h=>(xalloc P 156 h).go .pan fun t4 h=>(xstore P 156 t4 t3 h).go .pan fun t5 h=>(xload P 147 t1 h).go .pan fun t6 h=>(xalloc P 147 h).go .pan fun t7 h=>(xstore P 147 t7 t6 h).go .pan fun t8 h=>(l4 P cl nu nu t1 t2 t4 t7 (.int .i64 0) h):=by kernel_rfl
end
end F95
namespace F96
noncomputable section
variable (P:Program) (cl:Cl) (nu mu:Nu) (x0 x3:Value) (h:H)
noncomputable def s:=sub (bodyOf Tryz.f96)
noncomputable def k0:Ko:=kfn P Tryz.f96.results.toList
def k1:Ko:=kC P cl nu an96 (s [1,1,1]) (k0 P)
def k2:Ko:=kblk 0 (k1 P cl nu)
def l2:=mu 5 (lC P cl nu an96 [0,3] (s [1,1,0,0,0]) (k2 P cl nu)) [(0,x0),(3,x3)] h
def k3:Ko:=kL P cl nu an96 5 [0,3] (s [1,1,0,0,0]) (k2 P cl nu)
def j3:=mu 6 (evT P cl an96 nu (s [1,1,0,0,0,1]) (k3 P cl nu)) [(0,x0),(3,x3)] h
def j5:=mu 10 (evT P cl an96 nu (s [1,1,1]) (k0 P)) [(0,x0),(3,x3)] h
theorem l2n:evT P cl an96 nu (s [1,1,0,0,0]) (kL P cl nu an96 5 [0,3] (s [1,1,0,0,0]) (k2 P cl nu)) [(0,x0),(3,x3)] h=(xbin P .geq 154 x0 (.int .u64 128) h).go .pan fun t1 h=>ifV t1 (j3 P cl nu nu x0 x3 h) (j5 P cl nu nu x0 x3 h):=by kernel_rfl
def l2_eq:=@id (l2 P cl nu0 nu0 x0 x3 h=_) (lpN (l2n P cl nu0 x0 x3 h))
theorem j3_eq:j3 P cl nu nu0 x0 x3 h=(xconvert P 154 5 x0 h).go .pan fun t2 h=>(xbin P .or 5 t2 (.int .u8 128) h).go .pan fun t3 h=>(xbuildSlice P 71 1 [(0,t3)] h).go .pan fun t4 h=>(xbuiltin P .append [71,71] [x3,t4] h).go .pan fun t5 h=>(xbin P .shr 154 x0 (.int .u64 7) h).go .pan fun t6 h=>(l2 P cl nu nu t6 t5 h):=by kernel_rfl
theorem j5_eq:j5 P cl nu nu0 x0 x3 h=(xconvert P 154 5 x0 h).go .pan fun t7 h=>(xbuildSlice P 71 1 [(0,t7)] h).go .pan fun t8 h=>(xbuiltin P .append [71,71] [x3,t8] h).go .pan fun t9 h=>.ok t9 h:=by kernel_rfl
theorem eq:runX P cl nu an96 Tryz.f96 [x0] h=l2 P cl nu nu x0 (.slice none 0 0) h:=by kernel_rfl
end
end F96
namespace F97
noncomputable section
variable (P:Program) (cl:Cl) (nu mu:Nu) (x0 x1 x5:Value) (h:H)
noncomputable def s:=sub (bodyOf Tryz.f97)
noncomputable def k0:Ko:=kfn P Tryz.f97.results.toList
def k1:Ko:=kC P cl nu an97 (s [1,1,1]) (k0 P)
def k2:Ko:=kblk 0 (k1 P cl nu)
def l2:=mu 5 (lC P cl nu an97 [0,1,5] (s [1,1,0,0,0]) (k2 P cl nu)) [(0,x0),(1,x1),(5,x5)] h
def k3:Ko:=kL P cl nu an97 5 [0,1,5] (s [1,1,0,0,0]) (k2 P cl nu)
def j3:=mu 6 (evT P cl an97 nu (s [1,1,0,0,0,1]) (k3 P cl nu)) [(0,x0),(1,x1),(5,x5)] h
def j5:=mu 10 (evT P cl an97 nu (s [1,1,1]) (k0 P)) [(0,x0),(1,x1),(5,x5)] h
theorem l2n:evT P cl an97 nu (s [1,1,0,0,0]) (kL P cl nu an97 5 [0,1,5] (s [1,1,0,0,0]) (k2 P cl nu)) [(0,x0),(1,x1),(5,x5)] h=(xbin P .geq 3 x5 (.int .i64 128) h).go .pan fun t2 h=>ifV t2 (j3 P cl nu nu x0 x1 x5 h) (j5 P cl nu nu x0 x1 x5 h):=by kernel_rfl
def l2_eq:=@id (l2 P cl nu0 nu0 x0 x1 x5 h=_) (lpN (l2n P cl nu0 x0 x1 x5 h))
theorem j3_eq:j3 P cl nu nu0 x0 x1 x5 h=(xbin P .rem 3 x5 (.int .i64 128) h).go .pan fun t3 h=>(xbin P .add 3 t3 (.int .i64 128) h).go .pan fun t4 h=>(xconvert P 3 5 t4 h).go .pan fun t5 h=>(xbuildSlice P 71 1 [(0,t5)] h).go .pan fun t6 h=>(xbuiltin P .append [71,71] [x0,t6] h).go .pan fun t7 h=>(xbin P .quo 3 x5 (.int .i64 128) h).go .pan fun t8 h=>(l2 P cl nu nu t7 x1 t8 h):=by kernel_rfl
theorem j5_eq:j5 P cl nu nu0 x0 x1 x5 h=(xconvert P 3 5 x5 h).go .pan fun t9 h=>(xbuildSlice P 71 1 [(0,t9)] h).go .pan fun t10 h=>(xbuiltin P .append [71,71] [x0,t10] h).go .pan fun t11 h=>(xbuiltin P .append [71,71] [t11,x1] h).go .pan fun t12 h=>.ok t12 h:=by kernel_rfl
theorem eq:runX P cl nu an97 Tryz.f97 [x0,x1] h=(xbuiltin P .len [71] [x1] h).go .pan fun t1 h=>(l2 P cl nu nu x0 x1 t1 h):=by kernel_rfl
end
end F97
namespace F98
noncomputable section
variable (P:Program) (cl:Cl) (nu mu:Nu) (h:H)
theorem eq:runX P cl nu an98 Tryz.f98 [] h=(xalloc P 156 h).go .pan fun t1 h=>(xbuild P 156 [(0,(.int .u32 1116352408)),(1,(.int .u32 1899447441)),(2,(.int .u32 3049323471)),(3,(.int .u32 3921009573)),(4,(.int .u32 961987163)),(5,(.int .u32 1508970993)),(6,(.int .u32 2453635748)),(7,(.int .u32 2870763221)),(8,(.int .u32 3624381080)),(9,(.int .u32 310598401)),(10,(.int .u32 607225278)),(11,(.int .u32 1426881987)),(12,(.int .u32 1925078388)),(13,(.int .u32 2162078206)),(14,(.int .u32 2614888103)),(15,(.int .u32 3248222580)),(16,(.int .u32 3835390401)),(17,(.int .u32 4022224774)),(18,(.int .u32 264347078)),(19,(.int .u32 604807628)),(20,(.int .u32 770255983)),(21,(.int .u32 1249150122)),(22,(.int .u32 1555081692)),(23,(.int .u32 1996064986)),(24,(.int .u32 2554220882)),(25,(.int .u32 2821834349)),(26,(.int .u32 2952996808)),(27,(.int .u32 3210313671)),(28,(.int .u32 3336571891)),(29,(.int .u32 3584528711)),(30,(.int .u32 113926993)),(31,(.int .u32 338241895)),(32,(.int .u32 666307205)),(33,(.int .u32 773529912)),(34,(.int .u32 1294757372)),(35,(.int .u32 1396182291)),(36,(.int .u32 1695183700)),(37,(.int .u32 1986661051)),(38,(.int .u32 2177026350)),(39,(.int .u32 2456956037)),(40,(.int .u32 2730485921)),(41,(.int .u32 2820302411)),(42,(.int .u32 3259730800)),(43,(.int .u32 3345764771)),(44,(.int .u32 3516065817)),(45,(.int .u32 3600352804)),(46,(.int .u32 4094571909)),(47,(.int .u32 275423344)),(48,(.int .u32 430227734)),(49,(.int .u32 506948616)),(50,(.int .u32 659060556)),(51,(.int .u32 883997877)),(52,(.int .u32 958139571)),(53,(.int .u32 1322822218)),(54,(.int .u32 1537002063)),(55,(.int .u32 1747873779)),(56,(.int .u32 1955562222)),(57,(.int .u32 2024104815)),(58,(.int .u32 2227730452)),(59,(.int .u32 2361852424)),(60,(.int .u32 2428436474)),(61,(.int .u32 2756734187)),(62,(.int .u32 3204031479)),(63,(.int .u32 3329325298))] h).go .pan fun t2 h=>(xstore P 156 t1 t2 h).go .pan fun t3 h=>kfn P Tryz.f98.results.toList .normal [(0,t1)] h:=by kernel_rfl
end
end F98
namespace F99
noncomputable section
variable (P:Program) (cl:Cl) (nu mu:Nu) (x0 x3 x4 x5:Value) (h:H)
noncomputable def s:=sub (bodyOf Tryz.f99)
noncomputable def k0:Ko:=kfn P Tryz.f99.results.toList
def k1:Ko:=kC P cl nu an99 (s [1,1,1,1]) (k0 P)
def k2:Ko:=kblk 0 (k1 P cl nu)
def l3:=mu 7 (lC P cl nu an99 [0,3] (s [1,1,1,0,0,0]) (k2 P cl nu)) [(0,x0),(3,x3)] h
def j5:=mu 10 (evT P cl an99 nu (s [1,1,1,1]) (k0 P)) [(0,x0),(3,x3)] h
def k5:Ko:=kC P cl nu an99 (s [1,1,1,1,1,1]) (k0 P)
def k6:Ko:=kblk 2 (k5 P cl nu)
def l7:=mu 15 (lC P cl nu an99 [3,4,5] (s [1,1,1,1,1,0,1,0,0]) (k6 P cl nu)) [(3,x3),(4,x4),(5,x5)] h
def k7:Ko:=kL P cl nu an99 15 [3,4,5] (s [1,1,1,1,1,0,1,0,0]) (k6 P cl nu)
def j9:=mu 18 (evT P cl an99 nu (s [1,1,1,1,1,0,1,0,0,1]) (k7 P cl nu)) [(3,x3),(4,x4),(5,x5)] h
def j10:=mu 20 (evT P cl an99 nu (s [1,1,1,1,1,1]) (k0 P)) [(3,x3)] h
theorem l3n:evT P cl an99 nu (s [1,1,1,0,0,0]) (kL P cl nu an99 7 [0,3] (s [1,1,1,0,0,0]) (k2 P cl nu)) [(0,x0),(3,x3)] h=(xbuiltin P .len [71] [x3] h).go .pan fun t4 h=>(xbin P .rem 3 t4 (.int .i64 64) h).go .pan fun t5 h=>(xbin P .neq 3 t5 (.int .i64 56) h).go .pan fun t6 h=>ifV t6 ((xbuildSlice P 71 1 [(0,(.int .u8 0))] h).go .pan fun t7 h=>(xbuiltin P .append [71,71] [x3,t7] h).go .pan fun t8 h=>(l3 P cl nu nu x0 t8 h)) (j5 P cl nu nu x0 x3 h):=by kernel_rfl
def l3_eq:=@id (l3 P cl nu0 nu0 x0 x3 h=_) (lpN (l3n P cl nu0 x0 x3 h))
theorem j5_eq:j5 P cl nu nu0 x0 x3 h=(xbuiltin P .len [71] [x0] h).go .pan fun t9 h=>(xbin P .mul 3 (.int .i64 8) t9 h).go .pan fun t10 h=>(xconvert P 3 154 t10 h).go .pan fun t11 h=>(l7 P cl nu nu x3 t11 (.int .i64 7) h):=by kernel_rfl
theorem l7n:evT P cl an99 nu (s [1,1,1,1,1,0,1,0,0]) (kL P cl nu an99 15 [3,4,5] (s [1,1,1,1,1,0,1,0,0]) (k6 P cl nu)) [(3,x3),(4,x4),(5,x5)] h=(xbin P .geq 3 x5 (.int .i64 0) h).go .pan fun t12 h=>ifV t12 (j9 P cl nu nu x3 x4 x5 h) (j10 P cl nu nu x3 h):=by kernel_rfl
def l7_eq:=@id (l7 P cl nu0 nu0 x3 x4 x5 h=_) (lpN (l7n P cl nu0 x3 x4 x5 h))
theorem j9_eq:j9 P cl nu nu0 x3 x4 x5 h=(xconvert P 3 73 x5 h).go .pan fun t13 h=>(xbin P .mul 73 (.int .u64 8) t13 h).go .pan fun t14 h=>(xbin P .shr 154 x4 t14 h).go .pan fun t15 h=>(xconvert P 154 5 t15 h).go .pan fun t16 h=>(xbuildSlice P 71 1 [(0,t16)] h).go .pan fun t17 h=>(xbuiltin P .append [71,71] [x3,t17] h).go .pan fun t18 h=>(xbin P .sub 3 x5 (.int .i64 1) h).go .pan fun t19 h=>(l7 P cl nu nu t18 x4 t19 h):=by kernel_rfl
theorem j10_eq:j10 P cl nu nu0 x3 h = .ok x3 h:=by kernel_rfl
theorem eq:runX P cl nu an99 Tryz.f99 [x0] h=(xbuiltin P .append [71,71] [(.slice none 0 0),x0] h).go .pan fun t1 h=>(xbuildSlice P 71 1 [(0,(.int .u8 128))] h).go .pan fun t2 h=>(xbuiltin P .append [71,71] [t1,t2] h).go .pan fun t3 h=>(l3 P cl nu nu x0 t3 h):=by kernel_rfl
end
end F99
namespace F100
noncomputable section
variable (P:Program) (cl:Cl) (nu mu:Nu) (x0 x1 x2 x3 x4 x7 x8 x9 x10 x11 x16 x17 x24:Value) (h:H)
noncomputable def s:=sub (bodyOf Tryz.f100)
noncomputable def k0:Ko:=kfn P Tryz.f100.results.toList
def k1:Ko:=kC P cl nu an100 (s [1,1,1]) (k0 P)
def k2:Ko:=kblk 0 (k1 P cl nu)
def l3:=mu 7 (lC P cl nu an100 [1,2,4,7,8,9,10] (s [1,1,0,1,0,0]) (k2 P cl nu)) [(1,x1),(2,x2),(4,x4),(7,x7),(8,x8),(9,x9),(10,x10)] h
def k3:Ko:=kL P cl nu an100 7 [1,2,4,7,8,9,10] (s [1,1,0,1,0,0]) (k2 P cl nu)
def j5:=mu 10 (evT P cl an100 nu (s [1,1,0,1,0,0,1]) (k3 P cl nu)) [(1,x1),(2,x2),(4,x4),(7,x7),(8,x8),(9,x9),(10,x10)] h
def j6:=mu 12 (evT P cl an100 nu (s [1,1,1]) (k0 P)) [(4,x4),(7,x7),(8,x8),(9,x9)] h
def k6:Ko:=kC P cl nu an100 (s [1,1,1,1]) (k0 P)
def k7:Ko:=kblk 2 (k6 P cl nu)
def l7:=mu 15 (lC P cl nu an100 [4,7,8,9,11] (s [1,1,1,0,1,0,0]) (k7 P cl nu)) [(4,x4),(7,x7),(8,x8),(9,x9),(11,x11)] h
def k8:Ko:=kL P cl nu an100 15 [4,7,8,9,11] (s [1,1,1,0,1,0,0]) (k7 P cl nu)
def j9:=mu 18 (evT P cl an100 nu (s [1,1,1,0,1,0,0,1]) (k8 P cl nu)) [(4,x4),(7,x7),(8,x8),(9,x9),(11,x11)] h
def j13:=mu 26 (evT P cl an100 nu (s [1,1,1,1]) (k0 P)) [(4,x4),(7,x7),(8,x8),(9,x9)] h
def k12:Ko:=kC P cl nu an100 (s [1,1,1,1,1,1]) (k0 P)
def k13:Ko:=kblk 4 (k12 P cl nu)
def l15:=mu 31 (lC P cl nu an100 [4,7,8,9,16,17] (s [1,1,1,1,1,0,1,0,0]) (k13 P cl nu)) [(4,x4),(7,x7),(8,x8),(9,x9),(16,x16),(17,x17)] h
def k14:Ko:=kL P cl nu an100 31 [4,7,8,9,16,17] (s [1,1,1,1,1,0,1,0,0]) (k13 P cl nu)
def j17:=mu 34 (evT P cl an100 nu (s [1,1,1,1,1,0,1,0,0,1]) (k14 P cl nu)) [(4,x4),(7,x7),(8,x8),(9,x9),(16,x16),(17,x17)] h
def j23:=mu 46 (evT P cl an100 nu (s [1,1,1,1,1,1]) (k0 P)) [(4,x4),(8,x8),(16,x16)] h
def k18:Ko:=kC P cl nu an100 (s [1,1,1,1,1,1,1]) (k0 P)
def k19:Ko:=kblk 6 (k18 P cl nu)
def l24:=mu 49 (lC P cl nu an100 [4,8,16,24] (s [1,1,1,1,1,1,0,1,0,0]) (k19 P cl nu)) [(4,x4),(8,x8),(16,x16),(24,x24)] h
def k20:Ko:=kL P cl nu an100 49 [4,8,16,24] (s [1,1,1,1,1,1,0,1,0,0]) (k19 P cl nu)
def j26:=mu 52 (evT P cl an100 nu (s [1,1,1,1,1,1,0,1,0,0,1]) (k20 P cl nu)) [(4,x4),(8,x8),(16,x16),(24,x24)] h
def j27:=mu 54 (evT P cl an100 nu (s [1,1,1,1,1,1,1]) (k0 P)) [(4,x4),(8,x8)] h
theorem l3n:evT P cl an100 nu (s [1,1,0,1,0,0]) (kL P cl nu an100 7 [1,2,4,7,8,9,10] (s [1,1,0,1,0,0]) (k2 P cl nu)) [(1,x1),(2,x2),(4,x4),(7,x7),(8,x8),(9,x9),(10,x10)] h=(xbin P .lss 3 x10 (.int .i64 16) h).go .pan fun t5 h=>ifV t5 (j5 P cl nu nu x1 x2 x4 x7 x8 x9 x10 h) (j6 P cl nu nu x4 x7 x8 x9 h):=by kernel_rfl
def l3_eq:=@id (l3 P cl nu0 nu0 x1 x2 x4 x7 x8 x9 x10 h=_) (lpN (l3n P cl nu0 x1 x2 x4 x7 x8 x9 x10 h))
theorem j5_eq:j5 P cl nu nu0 x1 x2 x4 x7 x8 x9 x10 h=(xbin P .mul 3 (.int .i64 4) x10 h).go .pan fun t6 h=>(xbin P .add 3 x2 t6 h).go .pan fun t7 h=>(cl (.f 135) [x1,t7] h).go .pan fun t8 h=>(xindexAddr P 156 x9 x10 h).go .pan fun t9 h=>(xstore P 145 t9 t8 h).go .pan fun t10 h=>(xbin P .add 3 x10 (.int .i64 1) h).go .pan fun t11 h=>(l3 P cl nu nu x1 x2 x4 x7 x8 x9 t11 h):=by kernel_rfl
theorem j6_eq:j6 P cl nu nu0 x4 x7 x8 x9 h=l7 P cl nu nu x4 x7 x8 x9 (.int .i64 16) h:=by kernel_rfl
theorem l7n:evT P cl an100 nu (s [1,1,1,0,1,0,0]) (kL P cl nu an100 15 [4,7,8,9,11] (s [1,1,1,0,1,0,0]) (k7 P cl nu)) [(4,x4),(7,x7),(8,x8),(9,x9),(11,x11)] h=(xbin P .lss 3 x11 (.int .i64 64) h).go .pan fun t12 h=>ifV t12 (j9 P cl nu nu x4 x7 x8 x9 x11 h) (j13 P cl nu nu x4 x7 x8 x9 h):=by kernel_rfl
def l7_eq:=@id (l7 P cl nu0 nu0 x4 x7 x8 x9 x11 h=_) (lpN (l7n P cl nu0 x4 x7 x8 x9 x11 h))
theorem j9_eq:j9 P cl nu nu0 x4 x7 x8 x9 x11 h=bif plain2 x11 (.int .i64 15) then ((xbin P .sub 3 x11 (.int .i64 15) h).ok1 fun t13 h=>(xindexAddr P 156 x9 t13 h).ok1 fun t14 h=>(xload P 145 t14 h).ok1 fun t15 h=>bif plain2 x11 (.int .i64 2) then ((xbin P .sub 3 x11 (.int .i64 2) h).ok1 fun t16 h=>(xindexAddr P 156 x9 t16 h).ok1 fun t17 h=>(xload P 145 t17 h).ok1 fun t18 h=>bif (rc (xload P 145 t17 h) (some t18)&&true) then ((cl (.f 136) [t15,(.int .u64 7)] h).go .pan fun t19 h=>(cl (.f 136) [t15,(.int .u64 18)] h).go .pan fun t20 h=>(xbin P .xor 145 t19 t20 h).go .pan fun t21 h=>(xbin P .shr 145 t15 (.int .u64 3) h).go .pan fun t22 h=>(xbin P .xor 145 t21 t22 h).go .pan fun t23 h=>(cl (.f 136) [t18,(.int .u64 17)] h).go .pan fun t24 h=>(cl (.f 136) [t18,(.int .u64 19)] h).go .pan fun t25 h=>(xbin P .xor 145 t24 t25 h).go .pan fun t26 h=>(xbin P .shr 145 t18 (.int .u64 10) h).go .pan fun t27 h=>(xbin P .xor 145 t26 t27 h).go .pan fun t28 h=>bif plain2 x11 (.int .i64 7) then ((xbin P .sub 3 x11 (.int .i64 7) h).ok1 fun t29 h=>(xindexAddr P 156 x9 t29 h).ok1 fun t30 h=>(xload P 145 t30 h).ok1 fun t31 h=>bif plain2 t28 t31 then ((xbin P .add 145 t28 t31 h).ok1 fun t32 h=>bif plain2 t32 t23 then ((xbin P .add 145 t32 t23 h).ok1 fun t33 h=>bif plain2 x11 (.int .i64 16) then ((xbin P .sub 3 x11 (.int .i64 16) h).ok1 fun t34 h=>(xindexAddr P 156 x9 t34 h).ok1 fun t35 h=>(xload P 145 t35 h).ok1 fun t36 h=>bif plain2 t33 t36 then ((xbin P .add 145 t33 t36 h).ok1 fun t37 h=>(xindexAddr P 156 x9 x11 h).ok1 fun t38 h=>(xstore P 145 t38 t37 h).go .pan fun t39 h=>(xbin P .add 3 x11 (.int .i64 1) h).go .pan fun t40 h=>(l7 P cl nu nu x4 x7 x8 x9 t40 h)) else .bad) else .bad) else .bad) else .bad) else .bad) else .bad) else .bad) else .bad:=by kernel_rfl
theorem j13_eq:j13 P cl nu nu0 x4 x7 x8 x9 h=(xload P 146 x4 h).go .pan fun t41 h=>(xalloc P 146 h).go .pan fun t42 h=>(xstore P 146 t42 t41 h).go .pan fun t43 h=>(l15 P cl nu nu x4 x7 x8 x9 t42 (.int .i64 0) h):=by kernel_rfl
theorem l15n:evT P cl an100 nu (s [1,1,1,1,1,0,1,0,0]) (kL P cl nu an100 31 [4,7,8,9,16,17] (s [1,1,1,1,1,0,1,0,0]) (k13 P cl nu)) [(4,x4),(7,x7),(8,x8),(9,x9),(16,x16),(17,x17)] h=(xbin P .lss 3 x17 (.int .i64 64) h).go .pan fun t44 h=>ifV t44 (j17 P cl nu nu x4 x7 x8 x9 x16 x17 h) (j23 P cl nu nu x4 x8 x16 h):=by kernel_rfl
def l15_eq:=@id (l15 P cl nu0 nu0 x4 x7 x8 x9 x16 x17 h=_) (lpN (l15n P cl nu0 x4 x7 x8 x9 x16 x17 h))
theorem j17_eq:j17 P cl nu nu0 x4 x7 x8 x9 x16 x17 h=(xindexAddr P 146 x16 (.int .i64 0) h).ok1 fun t45 h=>(xload P 145 t45 h).ok1 fun t46 h=>(xindexAddr P 146 x16 (.int .i64 4) h).ok1 fun t47 h=>(xload P 145 t47 h).ok1 fun t48 h=>bif (rc (xload P 145 t47 h) (some t48)&&true) then ((cl (.f 136) [t48,(.int .u64 6)] h).go .pan fun t49 h=>(cl (.f 136) [t48,(.int .u64 11)] h).go .pan fun t50 h=>(xbin P .xor 145 t49 t50 h).go .pan fun t51 h=>(cl (.f 136) [t48,(.int .u64 25)] h).go .pan fun t52 h=>(xbin P .xor 145 t51 t52 h).go .pan fun t53 h=>(cl (.f 136) [t46,(.int .u64 2)] h).go .pan fun t54 h=>(cl (.f 136) [t46,(.int .u64 13)] h).go .pan fun t55 h=>(xbin P .xor 145 t54 t55 h).go .pan fun t56 h=>(cl (.f 136) [t46,(.int .u64 22)] h).go .pan fun t57 h=>(xbin P .xor 145 t56 t57 h).go .pan fun t58 h=>(xindexAddr P 146 x16 (.int .i64 7) h).ok1 fun t59 h=>(xload P 145 t59 h).ok1 fun t60 h=>bif plain2 t60 t53 then ((xbin P .add 145 t60 t53 h).ok1 fun t61 h=>(xindexAddr P 146 x16 (.int .i64 5) h).ok1 fun t62 h=>(xload P 145 t62 h).ok1 fun t63 h=>bif plain2 t48 t63 then ((xbin P .and 145 t48 t63 h).ok1 fun t64 h=>(xun P .xor t48 h).ok1 fun t65 h=>(xindexAddr P 146 x16 (.int .i64 6) h).ok1 fun t66 h=>(xload P 145 t66 h).ok1 fun t67 h=>bif plain2 t65 t67 then ((xbin P .and 145 t65 t67 h).ok1 fun t68 h=>bif plain2 t64 t68 then ((xbin P .xor 145 t64 t68 h).ok1 fun t69 h=>bif plain2 t61 t69 then ((xbin P .add 145 t61 t69 h).ok1 fun t70 h=>(xindexAddr P 156 x7 x17 h).ok1 fun t71 h=>(xload P 145 t71 h).ok1 fun t72 h=>bif plain2 t70 t72 then ((xbin P .add 145 t70 t72 h).ok1 fun t73 h=>(xindexAddr P 156 x9 x17 h).ok1 fun t74 h=>(xload P 145 t74 h).ok1 fun t75 h=>bif plain2 t73 t75 then ((xbin P .add 145 t73 t75 h).ok1 fun t76 h=>(xindexAddr P 146 x16 (.int .i64 1) h).go .pan fun t77 h=>(xload P 145 t77 h).go .pan fun t78 h=>(xbin P .and 145 t46 t78 h).go .pan fun t79 h=>(xindexAddr P 146 x16 (.int .i64 2) h).go .pan fun t80 h=>(xload P 145 t80 h).go .pan fun t81 h=>(xbin P .and 145 t46 t81 h).go .pan fun t82 h=>(xbin P .xor 145 t79 t82 h).go .pan fun t83 h=>(xindexAddr P 146 x16 (.int .i64 1) h).go .pan fun t84 h=>(xload P 145 t84 h).go .pan fun t85 h=>(xindexAddr P 146 x16 (.int .i64 2) h).go .pan fun t86 h=>(xload P 145 t86 h).go .pan fun t87 h=>(xbin P .and 145 t85 t87 h).go .pan fun t88 h=>(xbin P .xor 145 t83 t88 h).go .pan fun t89 h=>(xbin P .add 145 t58 t89 h).go .pan fun t90 h=>(xbin P .add 145 t76 t90 h).go .pan fun t91 h=>(xindexAddr P 146 x16 (.int .i64 0) h).go .pan fun t92 h=>(xload P 145 t92 h).go .pan fun t93 h=>(xindexAddr P 146 x16 (.int .i64 1) h).go .pan fun t94 h=>(xload P 145 t94 h).go .pan fun t95 h=>(xindexAddr P 146 x16 (.int .i64 2) h).go .pan fun t96 h=>(xload P 145 t96 h).go .pan fun t97 h=>(xindexAddr P 146 x16 (.int .i64 3) h).go .pan fun t98 h=>(xload P 145 t98 h).go .pan fun t99 h=>(xbin P .add 145 t99 t76 h).go .pan fun t100 h=>(xindexAddr P 146 x16 (.int .i64 4) h).go .pan fun t101 h=>(xload P 145 t101 h).go .pan fun t102 h=>(xindexAddr P 146 x16 (.int .i64 5) h).go .pan fun t103 h=>(xload P 145 t103 h).go .pan fun t104 h=>(xindexAddr P 146 x16 (.int .i64 6) h).go .pan fun t105 h=>(xload P 145 t105 h).go .pan fun t106 h=>(xbuild P 146 [(0,t91),(1,t93),(2,t95),(3,t97),(4,t100),(5,t102),(6,t104),(7,t106)] h).go .pan fun t107 h=>(xstore P 146 x16 t107 h).go .pan fun t108 h=>(xbin P .add 3 x17 (.int .i64 1) h).go .pan fun t109 h=>(l15 P cl nu nu x4 x7 x8 x9 x16 t109 h)) else .bad) else .bad) else .bad) else .bad) else .bad) else .bad) else .bad) else .bad:=by kernel_rfl
theorem j23_eq:j23 P cl nu nu0 x4 x8 x16 h=l24 P cl nu nu x4 x8 x16 (.int .i64 0) h:=by kernel_rfl
theorem l24n:evT P cl an100 nu (s [1,1,1,1,1,1,0,1,0,0]) (kL P cl nu an100 49 [4,8,16,24] (s [1,1,1,1,1,1,0,1,0,0]) (k19 P cl nu)) [(4,x4),(8,x8),(16,x16),(24,x24)] h=(xbin P .lss 3 x24 (.int .i64 8) h).go .pan fun t110 h=>ifV t110 (j26 P cl nu nu x4 x8 x16 x24 h) (j27 P cl nu nu x4 x8 h):=by kernel_rfl
def l24_eq:=@id (l24 P cl nu0 nu0 x4 x8 x16 x24 h=_) (lpN (l24n P cl nu0 x4 x8 x16 x24 h))
theorem j26_eq:j26 P cl nu nu0 x4 x8 x16 x24 h=(xindexAddr P 146 x4 x24 h).ok1 fun t111 h=>(xload P 145 t111 h).ok1 fun t112 h=>(xindexAddr P 146 x16 x24 h).ok1 fun t113 h=>(xload P 145 t113 h).ok1 fun t114 h=>bif plain2 t112 t114 then ((xbin P .add 145 t112 t114 h).ok1 fun t115 h=>(xindexAddr P 146 x4 x24 h).ok1 fun t116 h=>(xstore P 145 t116 t115 h).go .pan fun t117 h=>(xbin P .add 3 x24 (.int .i64 1) h).go .pan fun t118 h=>(l24 P cl nu nu x4 x8 x16 t118 h)) else .bad:=by kernel_rfl
theorem j27_eq:j27 P cl nu nu0 x4 x8 h=(xload P 146 x4 h).go .pan fun t119 h=>(xstore P 146 x8 t119 h).go .pan fun t120 h=>kfn P Tryz.f100.results.toList .normal [(8,x8)] h:=by kernel_rfl
theorem eq:runX P cl nu an100 Tryz.f100 [x0,x1,x2,x3] h=(xbox 146 x0 h).go .pan fun t1 h=>(xbox 156 x3 h).go .pan fun t2 h=>(xalloc P 146 h).go .pan fun t3 h=>(xalloc P 156 h).go .pan fun t4 h=>(l3 P cl nu nu x1 x2 t1 t2 t3 t4 (.int .i64 0) h):=by kernel_rfl
end
end F100
namespace F133
noncomputable section
variable (P:Program) (cl:Cl) (nu mu:Nu) (x0 x2 x3 x5 x8 x9:Value) (h:H)
noncomputable def s:=sub (bodyOf Tryz.f133)
noncomputable def k0:Ko:=kfn P Tryz.f133.results.toList
def k1:Ko:=kC P cl nu an133 (s [1,1,1]) (k0 P)
def k2:Ko:=kblk 0 (k1 P cl nu)
def l3:=mu 7 (lC P cl nu an133 [0,2,3,8] (s [1,1,0,1,0,0]) (k2 P cl nu)) [(0,x0),(2,x2),(3,x3),(8,x8)] h
def k3:Ko:=kL P cl nu an133 7 [0,2,3,8] (s [1,1,0,1,0,0]) (k2 P cl nu)
def j4:=mu 8 (evT P cl an133 nu (s [1,1,0,1,0,0,1]) (k3 P cl nu)) [(0,x0),(2,x2),(3,x3),(8,x8),(9,x9)] h
def j4_1:=mu 8 (evT P cl an133 nu (s [1,1,0,1,0,0,1,1]) (k3 P cl nu)) [(0,x0),(2,x2),(3,x3),(8,x8),(9,x9)] h
def j7:=mu 14 (evT P cl an133 nu (s [1,1,1]) (k0 P)) [(2,x2),(3,x3)] h
def k6:Ko:=kC P cl nu an133 (s [1,1,1,1]) (k0 P)
def k7:Ko:=kblk 2 (k6 P cl nu)
def l8:=mu 17 (lC P cl nu an133 [2,3,5] (s [1,1,1,0,1,0,0]) (k7 P cl nu)) [(2,x2),(3,x3),(5,x5)] h
def k8:Ko:=kL P cl nu an133 17 [2,3,5] (s [1,1,1,0,1,0,0]) (k7 P cl nu)
def j10:=mu 20 (evT P cl an133 nu (s [1,1,1,0,1,0,0,1]) (k8 P cl nu)) [(2,x2),(3,x3),(5,x5)] h
def j14:=mu 28 (evT P cl an133 nu (s [1,1,1,1]) (k0 P)) [(2,x2),(3,x3)] h
theorem l3n:evT P cl an133 nu (s [1,1,0,1,0,0]) (kL P cl nu an133 7 [0,2,3,8] (s [1,1,0,1,0,0]) (k2 P cl nu)) [(0,x0),(2,x2),(3,x3),(8,x8)] h=(xbin P .lss 3 x8 (.int .i64 16) h).go .pan fun t3 h=>(j4 P cl nu nu x0 x2 x3 x8 t3 h):=by kernel_rfl
def l3_eq:=@id (l3 P cl nu0 nu0 x0 x2 x3 x8 h=_) (lpN (l3n P cl nu0 x0 x2 x3 x8 h))
theorem j4_eq:j4 P cl nu nu0 x0 x2 x3 x8 x9 h=ifV x9 (j4_1 P cl nu nu x0 x2 x3 x8 x9 h) (j7 P cl nu nu x2 x3 h):=by kernel_rfl
theorem j4_1_eq:j4_1 P cl nu nu0 x0 x2 x3 x8 x9 h=bif plain2 (.int .i64 4) x8 then ((xbin P .mul 3 (.int .i64 4) x8 h).ok1 fun t4 h=>(xindexAddr P 71 x0 t4 h).ok1 fun t5 h=>(xload P 5 t5 h).ok1 fun t6 h=>bif isIntV t6 then ((xconvert P 5 145 t6 h).ok1 fun t7 h=>bif plain2 t7 (.int .u64 24) then ((xbin P .shl 145 t7 (.int .u64 24) h).ok1 fun t8 h=>bif plain2 (.int .i64 4) x8 then ((xbin P .mul 3 (.int .i64 4) x8 h).ok1 fun t9 h=>bif plain2 t9 (.int .i64 1) then ((xbin P .add 3 t9 (.int .i64 1) h).ok1 fun t10 h=>(xindexAddr P 71 x0 t10 h).ok1 fun t11 h=>(xload P 5 t11 h).ok1 fun t12 h=>bif isIntV t12 then ((xconvert P 5 145 t12 h).ok1 fun t13 h=>bif plain2 t13 (.int .u64 16) then ((xbin P .shl 145 t13 (.int .u64 16) h).ok1 fun t14 h=>bif plain2 t8 t14 then ((xbin P .or 145 t8 t14 h).ok1 fun t15 h=>bif plain2 (.int .i64 4) x8 then ((xbin P .mul 3 (.int .i64 4) x8 h).ok1 fun t16 h=>bif plain2 t16 (.int .i64 2) then ((xbin P .add 3 t16 (.int .i64 2) h).ok1 fun t17 h=>(xindexAddr P 71 x0 t17 h).ok1 fun t18 h=>(xload P 5 t18 h).ok1 fun t19 h=>bif isIntV t19 then ((xconvert P 5 145 t19 h).ok1 fun t20 h=>bif plain2 t20 (.int .u64 8) then ((xbin P .shl 145 t20 (.int .u64 8) h).ok1 fun t21 h=>bif plain2 t15 t21 then ((xbin P .or 145 t15 t21 h).ok1 fun t22 h=>bif plain2 (.int .i64 4) x8 then ((xbin P .mul 3 (.int .i64 4) x8 h).ok1 fun t23 h=>bif plain2 t23 (.int .i64 3) then ((xbin P .add 3 t23 (.int .i64 3) h).ok1 fun t24 h=>(xindexAddr P 71 x0 t24 h).ok1 fun t25 h=>(xload P 5 t25 h).ok1 fun t26 h=>bif isIntV t26 then ((xconvert P 5 145 t26 h).ok1 fun t27 h=>bif plain2 t22 t27 then ((xbin P .or 145 t22 t27 h).ok1 fun t28 h=>(xindexAddr P 156 x3 x8 h).ok1 fun t29 h=>(xstore P 145 t29 t28 h).go .pan fun t30 h=>(xbin P .add 3 x8 (.int .i64 1) h).go .pan fun t31 h=>(l3 P cl nu nu x0 x2 x3 t31 h)) else .bad) else .bad) else .bad) else .bad) else .bad) else .bad) else .bad) else .bad) else .bad) else .bad) else .bad) else .bad) else .bad) else .bad) else .bad) else .bad) else .bad:=by kernel_rfl
theorem j7_eq:j7 P cl nu nu0 x2 x3 h=l8 P cl nu nu x2 x3 (.int .i64 16) h:=by kernel_rfl
theorem l8n:evT P cl an133 nu (s [1,1,1,0,1,0,0]) (kL P cl nu an133 17 [2,3,5] (s [1,1,1,0,1,0,0]) (k7 P cl nu)) [(2,x2),(3,x3),(5,x5)] h=(xbin P .lss 3 x5 (.int .i64 64) h).go .pan fun t32 h=>ifV t32 (j10 P cl nu nu x2 x3 x5 h) (j14 P cl nu nu x2 x3 h):=by kernel_rfl
def l8_eq:=@id (l8 P cl nu0 nu0 x2 x3 x5 h=_) (lpN (l8n P cl nu0 x2 x3 x5 h))
theorem j10_eq:j10 P cl nu nu0 x2 x3 x5 h=bif plain2 x5 (.int .i64 15) then ((xbin P .sub 3 x5 (.int .i64 15) h).ok1 fun t33 h=>(xindexAddr P 156 x3 t33 h).ok1 fun t34 h=>(xload P 145 t34 h).ok1 fun t35 h=>bif plain2 x5 (.int .i64 2) then ((xbin P .sub 3 x5 (.int .i64 2) h).ok1 fun t36 h=>(xindexAddr P 156 x3 t36 h).ok1 fun t37 h=>(xload P 145 t37 h).ok1 fun t38 h=>bif (rc (xload P 145 t37 h) (some t38)&&true) then ((cl (.f 134) [t38,(.int .i64 17)] h).go .pan fun t39 h=>(cl (.f 134) [t38,(.int .i64 19)] h).go .pan fun t40 h=>(xbin P .xor 145 t39 t40 h).go .pan fun t41 h=>(xbin P .shr 145 t38 (.int .u64 10) h).go .pan fun t42 h=>(xbin P .xor 145 t41 t42 h).go .pan fun t43 h=>(xindexAddr P 156 x3 x5 h).go .pan fun t44 h=>(xstore P 145 t44 t43 h).go .pan fun t45 h=>(xindexAddr P 156 x3 x5 h).ok1 fun t46 h=>(xload P 145 t46 h).ok1 fun t47 h=>bif plain2 x5 (.int .i64 7) then ((xbin P .sub 3 x5 (.int .i64 7) h).ok1 fun t48 h=>(xindexAddr P 156 x3 t48 h).ok1 fun t49 h=>(xload P 145 t49 h).ok1 fun t50 h=>bif plain2 x5 (.int .i64 16) then ((xbin P .sub 3 x5 (.int .i64 16) h).ok1 fun t51 h=>(xindexAddr P 156 x3 t51 h).ok1 fun t52 h=>(xload P 145 t52 h).ok1 fun t53 h=>bif plain2 t50 t53 then ((xbin P .add 145 t50 t53 h).ok1 fun t54 h=>bif plain2 t47 t54 then ((xbin P .add 145 t47 t54 h).ok1 fun t55 h=>(xindexAddr P 156 x3 x5 h).ok1 fun t56 h=>(xstore P 145 t56 t55 h).go .pan fun t57 h=>(xindexAddr P 156 x3 x5 h).ok1 fun t58 h=>(xload P 145 t58 h).ok1 fun t59 h=>bif plain2 t35 (.int .u64 3) then ((xbin P .shr 145 t35 (.int .u64 3) h).ok1 fun t60 h=>(cl (.f 134) [t35,(.int .i64 7)] h).go .pan fun t61 h=>bif (rc (xload P 145 t58 h) (some t59)&&true) then ((cl (.f 134) [t35,(.int .i64 18)] h).go .pan fun t62 h=>bif (rc (xload P 145 t58 h) (some t59)&&true) then (bif plain2 t61 t62 then ((xbin P .xor 145 t61 t62 h).ok1 fun t63 h=>bif plain2 t63 t60 then ((xbin P .xor 145 t63 t60 h).ok1 fun t64 h=>bif plain2 t59 t64 then ((xbin P .add 145 t59 t64 h).ok1 fun t65 h=>(xindexAddr P 156 x3 x5 h).ok1 fun t66 h=>(xstore P 145 t66 t65 h).go .pan fun t67 h=>(xbin P .add 3 x5 (.int .i64 1) h).go .pan fun t68 h=>(l8 P cl nu nu x2 x3 t68 h)) else .bad) else .bad) else .bad) else .bad) else .bad) else .bad) else .bad) else .bad) else .bad) else .bad) else .bad) else .bad) else .bad:=by kernel_rfl
theorem j14_eq:j14 P cl nu nu0 x2 x3 h=(xload P 156 x3 h).go .pan fun t69 h=>(xstore P 156 x2 t69 h).go .pan fun t70 h=>kfn P Tryz.f133.results.toList .normal [(2,x2)] h:=by kernel_rfl
theorem eq:runX P cl nu an133 Tryz.f133 [x0] h=(xalloc P 156 h).go .pan fun t1 h=>(xalloc P 156 h).go .pan fun t2 h=>(l3 P cl nu nu x0 t1 t2 (.int .i64 0) h):=by kernel_rfl
end
end F133
namespace F134
noncomputable section
variable (P:Program) (cl:Cl) (nu mu:Nu) (x0 x1:Value) (h:H)
theorem eq:runX P cl nu an134 Tryz.f134 [x0,x1] h=(xun P .neg x1 h).go .pan fun t1 h=>(cl (.f 167) [x0,t1] h).go .pan fun t2 h=>.ok t2 h:=by kernel_rfl
end
end F134
namespace F135
noncomputable section
variable (P:Program) (cl:Cl) (nu mu:Nu) (x0 x1:Value) (h:H)
theorem eq:runX P cl nu an135 Tryz.f135 [x0,x1] h=(xindexAddr P 71 x0 x1 h).ok1 fun t1 h=>(xload P 5 t1 h).ok1 fun t2 h=>bif isIntV t2 then ((xconvert P 5 145 t2 h).ok1 fun t3 h=>bif plain2 t3 (.int .u64 24) then ((xbin P .shl 145 t3 (.int .u64 24) h).ok1 fun t4 h=>bif plain2 x1 (.int .i64 1) then ((xbin P .add 3 x1 (.int .i64 1) h).ok1 fun t5 h=>(xindexAddr P 71 x0 t5 h).ok1 fun t6 h=>(xload P 5 t6 h).ok1 fun t7 h=>bif isIntV t7 then ((xconvert P 5 145 t7 h).ok1 fun t8 h=>bif plain2 t8 (.int .u64 16) then ((xbin P .shl 145 t8 (.int .u64 16) h).ok1 fun t9 h=>bif plain2 t4 t9 then ((xbin P .or 145 t4 t9 h).ok1 fun t10 h=>bif plain2 x1 (.int .i64 2) then ((xbin P .add 3 x1 (.int .i64 2) h).ok1 fun t11 h=>(xindexAddr P 71 x0 t11 h).ok1 fun t12 h=>(xload P 5 t12 h).ok1 fun t13 h=>bif isIntV t13 then ((xconvert P 5 145 t13 h).ok1 fun t14 h=>bif plain2 t14 (.int .u64 8) then ((xbin P .shl 145 t14 (.int .u64 8) h).ok1 fun t15 h=>bif plain2 t10 t15 then ((xbin P .or 145 t10 t15 h).ok1 fun t16 h=>bif plain2 x1 (.int .i64 3) then ((xbin P .add 3 x1 (.int .i64 3) h).ok1 fun t17 h=>(xindexAddr P 71 x0 t17 h).ok1 fun t18 h=>(xload P 5 t18 h).ok1 fun t19 h=>bif isIntV t19 then ((xconvert P 5 145 t19 h).ok1 fun t20 h=>bif plain2 t16 t20 then ((xbin P .or 145 t16 t20 h).ok1 fun t21 h=>.ok t21 h) else .bad) else .bad) else .bad) else .bad) else .bad) else .bad) else .bad) else .bad) else .bad) else .bad) else .bad) else .bad) else .bad:=by kernel_rfl
end
end F135
namespace F136
noncomputable section
variable (P:Program) (cl:Cl) (nu mu:Nu) (x0 x1:Value) (h:H)
theorem eq:runX P cl nu an136 Tryz.f136 [x0,x1] h=(xbin P .shr 145 x0 x1 h).go .pan fun t1 h=>(xbin P .sub 73 (.int .u64 32) x1 h).go .pan fun t2 h=>(xbin P .shl 145 x0 t2 h).go .pan fun t3 h=>(xbin P .or 145 t1 t3 h).go .pan fun t4 h=>.ok t4 h:=by kernel_rfl
end
end F136
namespace F167
noncomputable section
variable (P:Program) (cl:Cl) (nu mu:Nu) (x0 x1:Value) (h:H)
theorem eq:runX P cl nu an167 Tryz.f167 [x0,x1] h=(xconvert P 3 73 x1 h).go .pan fun t1 h=>(xbin P .and 73 t1 (.int .u64 31) h).go .pan fun t2 h=>(xbin P .shl 145 x0 t2 h).go .pan fun t3 h=>(xbin P .sub 73 (.int .u64 32) t2 h).go .pan fun t4 h=>(xbin P .shr 145 x0 t4 h).go .pan fun t5 h=>(xbin P .or 145 t3 t5 h).go .pan fun t6 h=>.ok t6 h:=by kernel_rfl
end
end F167
end Go.Proofs.YtbfgadekkemlcaaGreatDoor.K
namespace Go.Proofs.YtbfgadekkemlcaaGreatDoor.K
open Go Go.Kx
namespace F41
noncomputable section
variable (P:Program) (cl:Cl) (nu mu:Nu) (x0 x6 x8 x14 x15 x16 x17 x27 x28 x29 x30 x54 x55 x56 x57:Value) (h:H)
noncomputable def s:=sub (bodyOf Tryz.f41)
noncomputable def k0:Ko:=kfn P Tryz.f41.results.toList
def j3:=mu 6 (evT P cl an41 nu (s [1,1]) (k0 P)) [(0,x0)] h
def k2:Ko:=kC P cl nu an41 (s [1,1,1]) (k0 P)
def k3:Ko:=kblk 0 (k2 P cl nu)
def l4:=mu 9 (lC P cl nu an41 [0,14,15,16] (s [1,1,0,1,0,0]) (k3 P cl nu)) [(0,x0),(14,x14),(15,x15),(16,x16)] h
def k4:Ko:=kL P cl nu an41 9 [0,14,15,16] (s [1,1,0,1,0,0]) (k3 P cl nu)
def j5:=mu 10 (evT P cl an41 nu (s [1,1,0,1,0,0,1]) (k4 P cl nu)) [(0,x0),(14,x14),(15,x15),(16,x16),(17,x17)] h
def j5_1:=mu 10 (evT P cl an41 nu (s [1,1,0,1,0,0,1,1]) (k4 P cl nu)) [(0,x0),(14,x14),(15,x15),(16,x16),(17,x17)] h
def j9:=mu 18 (evT P cl an41 nu (s [1,1,1]) (k0 P)) [(0,x0)] h
def j11:=mu 22 (evT P cl an41 nu (s [1,1,1,1]) (k0 P)) [(0,x0)] h
def k8:Ko:=kC P cl nu an41 (s [1,1,1,1,1,1]) (k0 P)
def k9:Ko:=kblk 2 (k8 P cl nu)
def l13:=mu 27 (lC P cl nu an41 [6,27,28,29] (s [1,1,1,1,1,0,1,0,0]) (k9 P cl nu)) [(6,x6),(27,x27),(28,x28),(29,x29)] h
def k10:Ko:=kL P cl nu an41 27 [6,27,28,29] (s [1,1,1,1,1,0,1,0,0]) (k9 P cl nu)
def j14:=mu 28 (evT P cl an41 nu (s [1,1,1,1,1,0,1,0,0,1]) (k10 P cl nu)) [(6,x6),(27,x27),(28,x28),(29,x29),(30,x30)] h
def j14_1:=mu 28 (evT P cl an41 nu (s [1,1,1,1,1,0,1,0,0,1,1]) (k10 P cl nu)) [(6,x6),(27,x27),(28,x28),(29,x29),(30,x30)] h
def k11:Ko:=kC P cl nu an41 (s [1,1,1,1,1,0,1,0,0,1,1,1]) (k10 P cl nu)
def k12:Ko:=kblk 3 (k11 P cl nu)
def j27:=mu 54 (evT P cl an41 nu (s [1,1,1,1,1,1]) (k0 P)) [(6,x6)] h
def j18:=mu 36 (evT P cl an41 nu (s [1,1,1,1,1,0,1,0,0,1,1,0,0,1,1,1]) (k12 P cl nu)) [(6,x6),(8,x8),(27,x27),(28,x28),(29,x29)] h
def k14:Ko:=kC P cl nu an41 (s [1,1,1,1,1,0,1,0,0,1,1,0,0,1,1,1,1]) (k12 P cl nu)
def k15:Ko:=kblk 4 (k14 P cl nu)
def l19:=mu 39 (lC P cl nu an41 [6,27,28,29,54,55,56] (s [1,1,1,1,1,0,1,0,0,1,1,0,0,1,1,1,0,1,0,0]) (k15 P cl nu)) [(6,x6),(27,x27),(28,x28),(29,x29),(54,x54),(55,x55),(56,x56)] h
def k16:Ko:=kL P cl nu an41 39 [6,27,28,29,54,55,56] (s [1,1,1,1,1,0,1,0,0,1,1,0,0,1,1,1,0,1,0,0]) (k15 P cl nu)
def j20:=mu 40 (evT P cl an41 nu (s [1,1,1,1,1,0,1,0,0,1,1,0,0,1,1,1,0,1,0,0,1]) (k16 P cl nu)) [(6,x6),(27,x27),(28,x28),(29,x29),(54,x54),(55,x55),(56,x56),(57,x57)] h
def j20_1:=mu 40 (evT P cl an41 nu (s [1,1,1,1,1,0,1,0,0,1,1,0,0,1,1,1,0,1,0,0,1,1]) (k16 P cl nu)) [(6,x6),(27,x27),(28,x28),(29,x29),(54,x54),(55,x55),(56,x56),(57,x57)] h
def j25:=mu 50 (evT P cl an41 nu (s [1,1,1,1,1,0,1,0,0,1,1,0,0,1,1,1,1]) (k12 P cl nu)) [(6,x6),(27,x27),(28,x28),(29,x29)] h
def j26:=mu 52 (evT P cl an41 nu (s [1,1,1,1,1,0,1,0,0,1,1,1]) (k10 P cl nu)) [(6,x6),(27,x27),(28,x28),(29,x29)] h
theorem j3_eq:j3 P cl nu nu0 x0 h=(xbuiltin P .len [53] [x0] h).go .pan fun t3 h=>(l4 P cl nu nu x0 x0 t3 (.int .i64 0) h):=by kernel_rfl
theorem l4n:evT P cl an41 nu (s [1,1,0,1,0,0]) (kL P cl nu an41 9 [0,14,15,16] (s [1,1,0,1,0,0]) (k3 P cl nu)) [(0,x0),(14,x14),(15,x15),(16,x16)] h=(xbin P .lss 3 x16 x15 h).go .pan fun t4 h=>(j5 P cl nu nu x0 x14 x15 x16 t4 h):=by kernel_rfl
def l4_eq:=@id (l4 P cl nu0 nu0 x0 x14 x15 x16 h=_) (lpN (l4n P cl nu0 x0 x14 x15 x16 h))
theorem j5_eq:j5 P cl nu nu0 x0 x14 x15 x16 x17 h=ifV x17 (j5_1 P cl nu nu x0 x14 x15 x16 x17 h) (j9 P cl nu nu x0 h):=by kernel_rfl
theorem j5_1_eq:j5_1 P cl nu nu0 x0 x14 x15 x16 x17 h=(xindexAddr P 53 x14 x16 h).go .pan fun t5 h=>(xload P 25 t5 h).go .pan fun t6 h=>(xalloc P 25 h).go .pan fun t7 h=>(xstore P 25 t7 t6 h).go .pan fun t8 h=>(xload P 25 t7 h).go .pan fun t9 h=>(cl (.f 72) [t9] h).go .pan fun t10 h=>(xun P .not t10 h).go .pan fun t11 h=>ifV t11 (.ok (.tuple ⟨[(.string ⟨#[]⟩),(.int .i64 127)]⟩) h) ((xbin P .add 3 x16 (.int .i64 1) h).go .pan fun t12 h=>(l4 P cl nu nu x0 x14 x15 t12 h)):=by kernel_rfl
theorem j9_eq:j9 P cl nu nu0 x0 h=(cl (.f 73) [x0] h).go .pan fun t13 h=>(xun P .not t13 h).go .pan fun t14 h=>ifV t14 (.ok (.tuple ⟨[(.string ⟨#[]⟩),(.int .i64 127)]⟩) h) (j11 P cl nu nu x0 h):=by kernel_rfl
theorem j11_eq:j11 P cl nu nu0 x0 h=(xalloc P 114 h).go .pan fun t15 h=>(xbuiltin P .len [53] [x0] h).go .pan fun t16 h=>(l13 P cl nu nu t15 x0 t16 (.int .i64 0) h):=by kernel_rfl
theorem l13n:evT P cl an41 nu (s [1,1,1,1,1,0,1,0,0]) (kL P cl nu an41 27 [6,27,28,29] (s [1,1,1,1,1,0,1,0,0]) (k9 P cl nu)) [(6,x6),(27,x27),(28,x28),(29,x29)] h=(xbin P .lss 3 x29 x28 h).go .pan fun t17 h=>(j14 P cl nu nu x6 x27 x28 x29 t17 h):=by kernel_rfl
def l13_eq:=@id (l13 P cl nu0 nu0 x6 x27 x28 x29 h=_) (lpN (l13n P cl nu0 x6 x27 x28 x29 h))
theorem j14_eq:j14 P cl nu nu0 x6 x27 x28 x29 x30 h=ifV x30 (j14_1 P cl nu nu x6 x27 x28 x29 x30 h) (j27 P cl nu nu x6 h):=by kernel_rfl
theorem j14_1_eq:j14_1 P cl nu nu0 x6 x27 x28 x29 x30 h=(xindexAddr P 53 x27 x29 h).go .pan fun t18 h=>(xload P 25 t18 h).go .pan fun t19 h=>(xalloc P 25 h).go .pan fun t20 h=>(xstore P 25 t20 t19 h).go .pan fun t21 h=>(xfieldAddr P 25 t20 0 h).ok1 fun t22 h=>(xload P 9 t22 h).ok1 fun t23 h=>bif plain2 (.string ⟨#[116,97,115,107,32]⟩) t23 then ((xbin P .add 9 (.string ⟨#[116,97,115,107,32]⟩) t23 h).ok1 fun t24 h=>bif plain2 t24 (.string ⟨#[32]⟩) then ((xbin P .add 9 t24 (.string ⟨#[32]⟩) h).ok1 fun t25 h=>(xfieldAddr P 25 t20 1 h).ok1 fun t26 h=>(xload P 3 t26 h).ok1 fun t27 h=>(cl (.f 75) [t27] h).go .pan fun t28 h=>bif (rc (xload P 9 t22 h) (some t23)&&true) then (bif plain2 t25 t28 then ((xbin P .add 9 t25 t28 h).ok1 fun t29 h=>bif plain2 t29 (.string ⟨#[10]⟩) then ((xbin P .add 9 t29 (.string ⟨#[10]⟩) h).ok1 fun t30 h=>(cl (.f 74) [x6,t30] h).go .pan fun t31 h=>(xfieldAddr P 25 t20 2 h).go .pan fun t32 h=>(xload P 22 t32 h).go .pan fun t33 h=>(xbuiltin P .len [22] [t33] h).go .pan fun t34 h=>(xbin P .gtr 3 t34 (.int .i64 0) h).go .pan fun t35 h=>ifV t35 ((xfieldAddr P 25 t20 2 h).go .pan fun t36 h=>(xload P 22 t36 h).go .pan fun t37 h=>(cl (.f 76) [t37,(.string ⟨#[32]⟩)] h).go .pan fun t38 h=>(xbin P .add 9 (.string ⟨#[105,110,32]⟩) t38 h).go .pan fun t39 h=>(xbin P .add 9 t39 (.string ⟨#[10]⟩) h).go .pan fun t40 h=>(cl (.f 74) [x6,t40] h).go .pan fun t41 h=>(j18 P cl nu nu x6 t20 x27 x28 x29 h)) (j18 P cl nu nu x6 t20 x27 x28 x29 h)) else .bad) else .bad) else .bad) else .bad) else .bad:=by kernel_rfl
theorem j27_eq:j27 P cl nu nu0 x6 h=(cl (.f 79) [x6] h).go .pan fun t42 h=>.ok (.tuple ⟨[t42,(.int .i64 0)]⟩) h:=by kernel_rfl
theorem j18_eq:j18 P cl nu nu0 x6 x8 x27 x28 x29 h=(xfieldAddr P 25 x8 3 h).go .pan fun t43 h=>(xload P 23 t43 h).go .pan fun t44 h=>(xbuiltin P .len [23] [t44] h).go .pan fun t45 h=>(l19 P cl nu nu x6 x27 x28 x29 t44 t45 (.int .i64 0) h):=by kernel_rfl
theorem l19n:evT P cl an41 nu (s [1,1,1,1,1,0,1,0,0,1,1,0,0,1,1,1,0,1,0,0]) (kL P cl nu an41 39 [6,27,28,29,54,55,56] (s [1,1,1,1,1,0,1,0,0,1,1,0,0,1,1,1,0,1,0,0]) (k15 P cl nu)) [(6,x6),(27,x27),(28,x28),(29,x29),(54,x54),(55,x55),(56,x56)] h=(xbin P .lss 3 x56 x55 h).go .pan fun t46 h=>(j20 P cl nu nu x6 x27 x28 x29 x54 x55 x56 t46 h):=by kernel_rfl
def l19_eq:=@id (l19 P cl nu0 nu0 x6 x27 x28 x29 x54 x55 x56 h=_) (lpN (l19n P cl nu0 x6 x27 x28 x29 x54 x55 x56 h))
theorem j20_eq:j20 P cl nu nu0 x6 x27 x28 x29 x54 x55 x56 x57 h=ifV x57 (j20_1 P cl nu nu x6 x27 x28 x29 x54 x55 x56 x57 h) (j25 P cl nu nu x6 x27 x28 x29 h):=by kernel_rfl
theorem j20_1_eq:j20_1 P cl nu nu0 x6 x27 x28 x29 x54 x55 x56 x57 h=(xindexAddr P 23 x54 x56 h).go .pan fun t47 h=>(xload P 48 t47 h).go .pan fun t48 h=>(xalloc P 48 h).go .pan fun t49 h=>(xstore P 48 t49 t48 h).go .pan fun t50 h=>(xfieldAddr P 48 t49 0 h).go .pan fun t51 h=>(xload P 9 t51 h).go .pan fun t52 h=>(xbin P .add 9 (.string ⟨#[111,117,116,32]⟩) t52 h).go .pan fun t53 h=>(xbin P .add 9 t53 (.string ⟨#[32,61,32]⟩) h).go .pan fun t54 h=>(cl (.f 74) [x6,t54] h).go .pan fun t55 h=>(xfieldAddr P 48 t49 1 h).go .pan fun t56 h=>(xload P 46 t56 h).go .pan fun t57 h=>(cl (.f 77) [x6,t57] h).go .pan fun t58 h=>(cl (.f 78) [x6,(.int .u8 10)] h).go .pan fun t59 h=>(xbin P .add 3 x56 (.int .i64 1) h).go .pan fun t60 h=>(l19 P cl nu nu x6 x27 x28 x29 x54 x55 t60 h):=by kernel_rfl
theorem j25_eq:j25 P cl nu nu0 x6 x27 x28 x29 h=(cl (.f 74) [x6,(.string ⟨#[101,110,100,10]⟩)] h).go .pan fun t61 h=>(j26 P cl nu nu x6 x27 x28 x29 h):=by kernel_rfl
theorem j26_eq:j26 P cl nu nu0 x6 x27 x28 x29 h=(xbin P .add 3 x29 (.int .i64 1) h).go .pan fun t62 h=>(l13 P cl nu nu x6 x27 x28 t62 h):=by kernel_rfl
theorem eq:runX P cl nu an41 Tryz.f41 [x0] h=(xbuiltin P .len [53] [x0] h).go .pan fun t1 h=>(xbin P .gtr 3 t1 (.int .i64 256) h).go .pan fun t2 h=>ifV t2 (.ok (.tuple ⟨[(.string ⟨#[]⟩),(.int .i64 127)]⟩) h) (j3 P cl nu nu x0 h):=by kernel_rfl
end
end F41
namespace F72
noncomputable section
variable (P:Program) (cl:Cl) (nu mu:Nu) (x0 x1 x27 x28 x29 x30:Value) (h:H)
noncomputable def s:=sub (bodyOf Tryz.f72)
noncomputable def k0:Ko:=kfn P Tryz.f72.results.toList
def j3:=mu 6 (evT P cl an72 nu (s [1,1]) (k0 P)) [(1,x1)] h
def k2:Ko:=kC P cl nu an72 (s [1,1,1]) (k0 P)
def k3:Ko:=kblk 0 (k2 P cl nu)
def l4:=mu 9 (lC P cl nu an72 [27,28,29] (s [1,1,0,1,0,0]) (k3 P cl nu)) [(27,x27),(28,x28),(29,x29)] h
def k4:Ko:=kL P cl nu an72 9 [27,28,29] (s [1,1,0,1,0,0]) (k3 P cl nu)
def j5:=mu 10 (evT P cl an72 nu (s [1,1,0,1,0,0,1]) (k4 P cl nu)) [(27,x27),(28,x28),(29,x29),(30,x30)] h
def j5_1:=mu 10 (evT P cl an72 nu (s [1,1,0,1,0,0,1,1]) (k4 P cl nu)) [(27,x27),(28,x28),(29,x29),(30,x30)] h
def j9:=mu 18 (evT P cl an72 nu (s [1,1,1]) (k0 P)) [] h
theorem j3_eq:j3 P cl nu nu0 x1 h=(xfieldAddr P 25 x1 3 h).go .pan fun t17 h=>(xload P 23 t17 h).go .pan fun t18 h=>(xbuiltin P .len [23] [t18] h).go .pan fun t19 h=>(l4 P cl nu nu t18 t19 (.int .i64 0) h):=by kernel_rfl
theorem l4n:evT P cl an72 nu (s [1,1,0,1,0,0]) (kL P cl nu an72 9 [27,28,29] (s [1,1,0,1,0,0]) (k3 P cl nu)) [(27,x27),(28,x28),(29,x29)] h=(xbin P .lss 3 x29 x28 h).go .pan fun t20 h=>(j5 P cl nu nu x27 x28 x29 t20 h):=by kernel_rfl
def l4_eq:=@id (l4 P cl nu0 nu0 x27 x28 x29 h=_) (lpN (l4n P cl nu0 x27 x28 x29 h))
theorem j5_eq:j5 P cl nu nu0 x27 x28 x29 x30 h=ifV x30 (j5_1 P cl nu nu x27 x28 x29 x30 h) (j9 P cl nu nu h):=by kernel_rfl
theorem j5_1_eq:j5_1 P cl nu nu0 x27 x28 x29 x30 h=(xindexAddr P 23 x27 x29 h).go .pan fun t21 h=>(xload P 48 t21 h).go .pan fun t22 h=>(xalloc P 48 h).go .pan fun t23 h=>(xstore P 48 t23 t22 h).go .pan fun t24 h=>(xfieldAddr P 48 t23 0 h).go .pan fun t25 h=>(xload P 9 t25 h).go .pan fun t26 h=>(cl (.f 104) [t26] h).go .pan fun t27 h=>(xun P .not t27 h).go .pan fun t28 h=>ifV t28 (.ok (.bool false) h) ((xfieldAddr P 48 t23 1 h).go .pan fun t29 h=>(xload P 46 t29 h).go .pan fun t30 h=>(cl (.f 105) [t30,(.int .i64 1)] h).go .pan fun t31 h=>(xun P .not t31 h).go .pan fun t32 h=>ifV t32 (.ok (.bool false) h) ((xbin P .add 3 x29 (.int .i64 1) h).go .pan fun t33 h=>(l4 P cl nu nu x27 x28 t33 h))):=by kernel_rfl
theorem j9_eq:j9 P cl nu nu0 h = .ok (.bool true) h:=by kernel_rfl
theorem eq:runX P cl nu an72 Tryz.f72 [x0] h=(xbox 25 x0 h).go .pan fun t1 h=>(xfieldAddr P 25 t1 0 h).go .pan fun t2 h=>(xload P 9 t2 h).go .pan fun t3 h=>(cl (.f 101) [t3] h).go .pan fun t4 h=>(xun P .not t4 h).go .pan fun t5 h=>ifV t5 (.ok (.bool false) h) ((xfieldAddr P 25 t1 1 h).go .pan fun t6 h=>(xload P 3 t6 h).go .pan fun t7 h=>(cl (.f 102) [t7,(.int .i64 1),(.int .i64 1048576)] h).go .pan fun t8 h=>ifV t8 (.ok (.bool false) h) ((xfieldAddr P 25 t1 2 h).go .pan fun t9 h=>(xload P 22 t9 h).go .pan fun t10 h=>(cl (.f 103) [t10] h).go .pan fun t11 h=>(xun P .not t11 h).go .pan fun t12 h=>ifV t12 (.ok (.bool false) h) ((xfieldAddr P 25 t1 3 h).go .pan fun t13 h=>(xload P 23 t13 h).go .pan fun t14 h=>(xbuiltin P .len [23] [t14] h).go .pan fun t15 h=>(cl (.f 102) [t15,(.int .i64 1),(.int .i64 8)] h).go .pan fun t16 h=>ifV t16 (.ok (.bool false) h) (j3 P cl nu nu t1 h)))):=by kernel_rfl
end
end F72
namespace F73
noncomputable section
variable (P:Program) (cl:Cl) (nu mu:Nu) (x0 x3 x4 x6 x8 x12 x13 x14 x15 x29 x30 x31 x32 x35 x36 x37 x38:Value) (h:H)
noncomputable def s:=sub (bodyOf Tryz.f73)
noncomputable def k0:Ko:=kfn P Tryz.f73.results.toList
def k1:Ko:=kC P cl nu an73 (s [1,1,1,1]) (k0 P)
def k2:Ko:=kblk 0 (k1 P cl nu)
def l4:=mu 9 (lC P cl nu an73 [3,4,12,13,14] (s [1,1,1,0,1,0,0]) (k2 P cl nu)) [(3,x3),(4,x4),(12,x12),(13,x13),(14,x14)] h
def k3:Ko:=kL P cl nu an73 9 [3,4,12,13,14] (s [1,1,1,0,1,0,0]) (k2 P cl nu)
def j5:=mu 10 (evT P cl an73 nu (s [1,1,1,0,1,0,0,1]) (k3 P cl nu)) [(3,x3),(4,x4),(12,x12),(13,x13),(14,x14),(15,x15)] h
def j5_1:=mu 10 (evT P cl an73 nu (s [1,1,1,0,1,0,0,1,1]) (k3 P cl nu)) [(3,x3),(4,x4),(12,x12),(13,x13),(14,x14),(15,x15)] h
def k4:Ko:=kC P cl nu an73 (s [1,1,1,0,1,0,0,1,1,1]) (k3 P cl nu)
def k5:Ko:=kblk 1 (k4 P cl nu)
def j21:=mu 42 (evT P cl an73 nu (s [1,1,1,1]) (k0 P)) [] h
def j9:=mu 18 (evT P cl an73 nu (s [1,1,1,0,1,0,0,1,1,0,0,1,1]) (k5 P cl nu)) [(3,x3),(4,x4),(6,x6),(12,x12),(13,x13),(14,x14)] h
def k7:Ko:=kblk 2 (k5 P cl nu)
def l10:=mu 21 (lC P cl nu an73 [3,4,12,13,14,29,30,31] (s [1,1,1,0,1,0,0,1,1,0,0,1,1,1,0,0]) (k7 P cl nu)) [(3,x3),(4,x4),(12,x12),(13,x13),(14,x14),(29,x29),(30,x30),(31,x31)] h
def k8:Ko:=kL P cl nu an73 21 [3,4,12,13,14,29,30,31] (s [1,1,1,0,1,0,0,1,1,0,0,1,1,1,0,0]) (k7 P cl nu)
def j11:=mu 22 (evT P cl an73 nu (s [1,1,1,0,1,0,0,1,1,0,0,1,1,1,0,0,1]) (k8 P cl nu)) [(3,x3),(4,x4),(12,x12),(13,x13),(14,x14),(29,x29),(30,x30),(31,x31),(32,x32)] h
def j11_1:=mu 22 (evT P cl an73 nu (s [1,1,1,0,1,0,0,1,1,0,0,1,1,1,0,0,1,1]) (k8 P cl nu)) [(3,x3),(4,x4),(12,x12),(13,x13),(14,x14),(29,x29),(30,x30),(31,x31),(32,x32)] h
def k9:Ko:=kC P cl nu an73 (s [1,1,1,0,1,0,0,1,1,0,0,1,1,1,0,0,1,1,1]) (k8 P cl nu)
def k10:Ko:=kblk 3 (k9 P cl nu)
def k11:Ko:=kC P cl nu an73 (s [1,1,1,0,1,0,0,1,1,0,0,1,1,1,0,0,1,1,0,0,1,1]) (k10 P cl nu)
def k12:Ko:=kblk 4 (k11 P cl nu)
def j20:=mu 40 (evT P cl an73 nu (s [1,1,1,0,1,0,0,1,1,1]) (k3 P cl nu)) [(3,x3),(4,x4),(12,x12),(13,x13),(14,x14)] h
def l13:=mu 27 (lC P cl nu an73 [3,4,8,12,13,14,29,30,31,35,36,37] (s [1,1,1,0,1,0,0,1,1,0,0,1,1,1,0,0,1,1,0,0,1,0,1,0,0]) (k12 P cl nu)) [(3,x3),(4,x4),(8,x8),(12,x12),(13,x13),(14,x14),(29,x29),(30,x30),(31,x31),(35,x35),(36,x36),(37,x37)] h
def k13:Ko:=kL P cl nu an73 27 [3,4,8,12,13,14,29,30,31,35,36,37] (s [1,1,1,0,1,0,0,1,1,0,0,1,1,1,0,0,1,1,0,0,1,0,1,0,0]) (k12 P cl nu)
def j14:=mu 28 (evT P cl an73 nu (s [1,1,1,0,1,0,0,1,1,0,0,1,1,1,0,0,1,1,0,0,1,0,1,0,0,1]) (k13 P cl nu)) [(3,x3),(4,x4),(8,x8),(12,x12),(13,x13),(14,x14),(29,x29),(30,x30),(31,x31),(35,x35),(36,x36),(37,x37),(38,x38)] h
def j14_1:=mu 28 (evT P cl an73 nu (s [1,1,1,0,1,0,0,1,1,0,0,1,1,1,0,0,1,1,0,0,1,0,1,0,0,1,1]) (k13 P cl nu)) [(3,x3),(4,x4),(8,x8),(12,x12),(13,x13),(14,x14),(29,x29),(30,x30),(31,x31),(35,x35),(36,x36),(37,x37),(38,x38)] h
def j18:=mu 36 (evT P cl an73 nu (s [1,1,1,0,1,0,0,1,1,0,0,1,1,1,0,0,1,1,0,0,1,1]) (k10 P cl nu)) [(3,x3),(4,x4),(8,x8),(12,x12),(13,x13),(14,x14),(29,x29),(30,x30),(31,x31)] h
def j19:=mu 38 (evT P cl an73 nu (s [1,1,1,0,1,0,0,1,1,0,0,1,1,1,0,0,1,1,1]) (k8 P cl nu)) [(3,x3),(4,x4),(12,x12),(13,x13),(14,x14),(29,x29),(30,x30),(31,x31)] h
theorem l4n:evT P cl an73 nu (s [1,1,1,0,1,0,0]) (kL P cl nu an73 9 [3,4,12,13,14] (s [1,1,1,0,1,0,0]) (k2 P cl nu)) [(3,x3),(4,x4),(12,x12),(13,x13),(14,x14)] h=(xbin P .lss 3 x14 x13 h).go .pan fun t3 h=>(j5 P cl nu nu x3 x4 x12 x13 x14 t3 h):=by kernel_rfl
def l4_eq:=@id (l4 P cl nu0 nu0 x3 x4 x12 x13 x14 h=_) (lpN (l4n P cl nu0 x3 x4 x12 x13 x14 h))
theorem j5_eq:j5 P cl nu nu0 x3 x4 x12 x13 x14 x15 h=ifV x15 (j5_1 P cl nu nu x3 x4 x12 x13 x14 x15 h) (j21 P cl nu nu h):=by kernel_rfl
theorem j5_1_eq:j5_1 P cl nu nu0 x3 x4 x12 x13 x14 x15 h=(xindexAddr P 53 x12 x14 h).go .pan fun t4 h=>(xload P 25 t4 h).go .pan fun t5 h=>(xalloc P 25 h).go .pan fun t6 h=>(xstore P 25 t6 t5 h).go .pan fun t7 h=>(xfieldAddr P 25 t6 0 h).go .pan fun t8 h=>(xload P 9 t8 h).go .pan fun t9 h=>(xlookup P 129 x3 t9 false h).go .pan fun t10 h=>(xbin P .add 3 t10 (.int .i64 1) h).go .pan fun t11 h=>(xmapUpdate P 129 x3 t9 t11 h).go .pan fun t12 h=>(xfieldAddr P 25 t6 0 h).go .pan fun t13 h=>(xload P 9 t13 h).go .pan fun t14 h=>(xlookup P 129 x3 t14 false h).go .pan fun t15 h=>(xbin P .gtr 3 t15 (.int .i64 1) h).go .pan fun t16 h=>ifV t16 (.ok (.bool false) h) (j9 P cl nu nu x3 x4 t6 x12 x13 x14 h):=by kernel_rfl
theorem j21_eq:j21 P cl nu nu0 h = .ok (.bool true) h:=by kernel_rfl
theorem j9_eq:j9 P cl nu nu0 x3 x4 x6 x12 x13 x14 h=(xfieldAddr P 25 x6 3 h).go .pan fun t17 h=>(xload P 23 t17 h).go .pan fun t18 h=>(xbuiltin P .len [23] [t18] h).go .pan fun t19 h=>(l10 P cl nu nu x3 x4 x12 x13 x14 t18 t19 (.int .i64 0) h):=by kernel_rfl
theorem l10n:evT P cl an73 nu (s [1,1,1,0,1,0,0,1,1,0,0,1,1,1,0,0]) (kL P cl nu an73 21 [3,4,12,13,14,29,30,31] (s [1,1,1,0,1,0,0,1,1,0,0,1,1,1,0,0]) (k7 P cl nu)) [(3,x3),(4,x4),(12,x12),(13,x13),(14,x14),(29,x29),(30,x30),(31,x31)] h=(xbin P .lss 3 x31 x30 h).go .pan fun t20 h=>(j11 P cl nu nu x3 x4 x12 x13 x14 x29 x30 x31 t20 h):=by kernel_rfl
def l10_eq:=@id (l10 P cl nu0 nu0 x3 x4 x12 x13 x14 x29 x30 x31 h=_) (lpN (l10n P cl nu0 x3 x4 x12 x13 x14 x29 x30 x31 h))
theorem j11_eq:j11 P cl nu nu0 x3 x4 x12 x13 x14 x29 x30 x31 x32 h=ifV x32 (j11_1 P cl nu nu x3 x4 x12 x13 x14 x29 x30 x31 x32 h) (j20 P cl nu nu x3 x4 x12 x13 x14 h):=by kernel_rfl
theorem j11_1_eq:j11_1 P cl nu nu0 x3 x4 x12 x13 x14 x29 x30 x31 x32 h=(xindexAddr P 23 x29 x31 h).go .pan fun t21 h=>(xload P 48 t21 h).go .pan fun t22 h=>(xalloc P 48 h).go .pan fun t23 h=>(xstore P 48 t23 t22 h).go .pan fun t24 h=>(xbuiltin P .len [22] [x4] h).go .pan fun t25 h=>(l13 P cl nu nu x3 x4 t23 x12 x13 x14 x29 x30 x31 x4 t25 (.int .i64 0) h):=by kernel_rfl
theorem j20_eq:j20 P cl nu nu0 x3 x4 x12 x13 x14 h=(xbin P .add 3 x14 (.int .i64 1) h).go .pan fun t26 h=>(l4 P cl nu nu x3 x4 x12 x13 t26 h):=by kernel_rfl
theorem l13n:evT P cl an73 nu (s [1,1,1,0,1,0,0,1,1,0,0,1,1,1,0,0,1,1,0,0,1,0,1,0,0]) (kL P cl nu an73 27 [3,4,8,12,13,14,29,30,31,35,36,37] (s [1,1,1,0,1,0,0,1,1,0,0,1,1,1,0,0,1,1,0,0,1,0,1,0,0]) (k12 P cl nu)) [(3,x3),(4,x4),(8,x8),(12,x12),(13,x13),(14,x14),(29,x29),(30,x30),(31,x31),(35,x35),(36,x36),(37,x37)] h=(xbin P .lss 3 x37 x36 h).go .pan fun t27 h=>(j14 P cl nu nu x3 x4 x8 x12 x13 x14 x29 x30 x31 x35 x36 x37 t27 h):=by kernel_rfl
def l13_eq:=@id (l13 P cl nu0 nu0 x3 x4 x8 x12 x13 x14 x29 x30 x31 x35 x36 x37 h=_) (lpN (l13n P cl nu0 x3 x4 x8 x12 x13 x14 x29 x30 x31 x35 x36 x37 h))
theorem j14_eq:j14 P cl nu nu0 x3 x4 x8 x12 x13 x14 x29 x30 x31 x35 x36 x37 x38 h=ifV x38 (j14_1 P cl nu nu x3 x4 x8 x12 x13 x14 x29 x30 x31 x35 x36 x37 x38 h) (j18 P cl nu nu x3 x4 x8 x12 x13 x14 x29 x30 x31 h):=by kernel_rfl
theorem j14_1_eq:j14_1 P cl nu nu0 x3 x4 x8 x12 x13 x14 x29 x30 x31 x35 x36 x37 x38 h=(xindexAddr P 22 x35 x37 h).go .pan fun t28 h=>(xload P 9 t28 h).go .pan fun t29 h=>(xfieldAddr P 48 x8 0 h).go .pan fun t30 h=>(xload P 9 t30 h).go .pan fun t31 h=>(cl (.f 106) [t29,t31] h).go .pan fun t32 h=>ifV t32 (.ok (.bool false) h) ((xfieldAddr P 48 x8 0 h).go .pan fun t33 h=>(xload P 9 t33 h).go .pan fun t34 h=>(cl (.f 106) [t34,t29] h).go .pan fun t35 h=>ifV t35 (.ok (.bool false) h) ((xbin P .add 3 x37 (.int .i64 1) h).go .pan fun t36 h=>(l13 P cl nu nu x3 x4 x8 x12 x13 x14 x29 x30 x31 x35 x36 t36 h))):=by kernel_rfl
theorem j18_eq:j18 P cl nu nu0 x3 x4 x8 x12 x13 x14 x29 x30 x31 h=(xfieldAddr P 48 x8 0 h).go .pan fun t37 h=>(xload P 9 t37 h).go .pan fun t38 h=>(xbuildSlice P 22 1 [(0,t38)] h).go .pan fun t39 h=>(xbuiltin P .append [22,22] [x4,t39] h).go .pan fun t40 h=>(j19 P cl nu nu x3 t40 x12 x13 x14 x29 x30 x31 h):=by kernel_rfl
theorem j19_eq:j19 P cl nu nu0 x3 x4 x12 x13 x14 x29 x30 x31 h=(xbin P .add 3 x31 (.int .i64 1) h).go .pan fun t41 h=>(l10 P cl nu nu x3 x4 x12 x13 x14 x29 x30 t41 h):=by kernel_rfl
theorem eq:runX P cl nu an73 Tryz.f73 [x0] h=(xmakeMap h).go .pan fun t1 h=>(xbuiltin P .len [53] [x0] h).go .pan fun t2 h=>(l4 P cl nu nu t1 (.slice none 0 0) x0 t2 (.int .i64 0) h):=by kernel_rfl
end
end F73
namespace F74
noncomputable section
variable (P:Program) (cl:Cl) (nu mu:Nu) (x0 x1:Value) (h:H)
theorem eq:runX P cl nu an74 Tryz.f74 [x0,x1] h=(cl (.f 107) [x0] h).go .pan fun t1 h=>(xnilCheck x0 h).go .pan fun t2 h=>(xfieldAddr P 114 t2 1 h).go .pan fun t3 h=>(xload P 71 t3 h).go .pan fun t4 h=>(xbuiltin P .append [71,9] [t4,x1] h).go .pan fun t5 h=>(xnilCheck x0 h).go .pan fun t6 h=>(xfieldAddr P 114 t6 1 h).go .pan fun t7 h=>(xstore P 71 t7 t5 h).go .pan fun t8 h=>(xbuiltin P .len [9] [x1] h).go .pan fun t9 h=>.ok (.tuple ⟨[t9,.nilIface]⟩) h:=by kernel_rfl
end
end F74
namespace F75
noncomputable section
variable (P:Program) (cl:Cl) (nu mu:Nu) (x0:Value) (h:H)
theorem eq:runX P cl nu an75 Tryz.f75 [x0] h=(cl (.f 108) [x0] h).go .pan fun t1 h=>.ok t1 h:=by kernel_rfl
end
end F75
namespace F76
noncomputable section
variable (P:Program) (cl:Cl) (nu mu:Nu) (x0 x1 x5 x8 x39 x40 x41 x42 x63 x64 x65 x66:Value) (h:H)
noncomputable def s:=sub (bodyOf Tryz.f76)
noncomputable def k0:Ko:=kfn P Tryz.f76.results.toList
def j6:=mu 12 (evT P cl an76 nu (s [1,1]) (k0 P)) [(0,x0),(1,x1)] h
def k3:Ko:=kC P cl nu an76 (s [1,1,1,1]) (k0 P)
def j10:=mu 20 (evT P cl an76 nu (s [1,1,1,0,1,0,1]) (k3 P cl nu)) [(0,x0),(1,x1),(5,x5)] h
def j11:=mu 22 (evT P cl an76 nu (s [1,1,1,1]) (k0 P)) [(0,x0),(1,x1),(5,x5)] h
def k5:Ko:=kC P cl nu an76 (s [1,1,1,1,1]) (k0 P)
def k6:Ko:=kblk 1 (k5 P cl nu)
def l12:=mu 25 (lC P cl nu an76 [0,1,5,39,40,41] (s [1,1,1,1,0,1,0,0]) (k6 P cl nu)) [(0,x0),(1,x1),(5,x5),(39,x39),(40,x40),(41,x41)] h
def k7:Ko:=kL P cl nu an76 25 [0,1,5,39,40,41] (s [1,1,1,1,0,1,0,0]) (k6 P cl nu)
def j13:=mu 26 (evT P cl an76 nu (s [1,1,1,1,0,1,0,0,1]) (k7 P cl nu)) [(0,x0),(1,x1),(5,x5),(39,x39),(40,x40),(41,x41),(42,x42)] h
def j13_1:=mu 26 (evT P cl an76 nu (s [1,1,1,1,0,1,0,0,1,1]) (k7 P cl nu)) [(0,x0),(1,x1),(5,x5),(39,x39),(40,x40),(41,x41),(42,x42)] h
def j18:=mu 36 (evT P cl an76 nu (s [1,1,1,1,1]) (k0 P)) [(0,x0),(1,x1),(5,x5)] h
def k11:Ko:=kC P cl nu an76 (s [1,1,1,1,1,1,1,1,1]) (k0 P)
def k12:Ko:=kblk 3 (k11 P cl nu)
def l22:=mu 45 (lC P cl nu an76 [1,8,63,64,65] (s [1,1,1,1,1,1,1,1,0,1,0,0]) (k12 P cl nu)) [(1,x1),(8,x8),(63,x63),(64,x64),(65,x65)] h
def k13:Ko:=kL P cl nu an76 45 [1,8,63,64,65] (s [1,1,1,1,1,1,1,1,0,1,0,0]) (k12 P cl nu)
def j23:=mu 46 (evT P cl an76 nu (s [1,1,1,1,1,1,1,1,0,1,0,0,1]) (k13 P cl nu)) [(1,x1),(8,x8),(63,x63),(64,x64),(65,x65),(66,x66)] h
def j23_1:=mu 46 (evT P cl an76 nu (s [1,1,1,1,1,1,1,1,0,1,0,0,1,1]) (k13 P cl nu)) [(1,x1),(8,x8),(63,x63),(64,x64),(65,x65),(66,x66)] h
def j27:=mu 54 (evT P cl an76 nu (s [1,1,1,1,1,1,1,1,1]) (k0 P)) [(8,x8)] h
theorem j6_eq:j6 P cl nu nu0 x0 x1 h=(xbuiltin P .len [9] [x1] h).go .pan fun t6 h=>(xbin P .gtr 3 t6 (.int .i64 0) h).go .pan fun t7 h=>ifV t7 ((xbuiltin P .len [9] [x1] h).go .pan fun t8 h=>(xbuiltin P .len [22] [x0] h).go .pan fun t9 h=>(xbin P .sub 3 t9 (.int .i64 1) h).go .pan fun t10 h=>(xbin P .quo 3 (.int .i64 9223372036854775807) t10 h).go .pan fun t11 h=>(xbin P .geq 3 t8 t11 h).go .pan fun t12 h=>ifV t12 ((xmakeInterface P 9 (.string ⟨#[115,116,114,105,110,103,115,58,32,74,111,105,110,32,111,117,116,112,117,116,32,108,101,110,103,116,104,32,111,118,101,114,102,108,111,119]⟩) h).go .pan fun t13 h=>(panV t13 h).go .pan fun t14 h=>(j10 P cl nu nu x0 x1 (.int .i64 0) h)) (j10 P cl nu nu x0 x1 (.int .i64 0) h)) (j11 P cl nu nu x0 x1 (.int .i64 0) h):=by kernel_rfl
theorem j10_eq:j10 P cl nu nu0 x0 x1 x5 h=(xbuiltin P .len [9] [x1] h).go .pan fun t15 h=>(xbuiltin P .len [22] [x0] h).go .pan fun t16 h=>(xbin P .sub 3 t16 (.int .i64 1) h).go .pan fun t17 h=>(xbin P .mul 3 t15 t17 h).go .pan fun t18 h=>(xbin P .add 3 x5 t18 h).go .pan fun t19 h=>(j11 P cl nu nu x0 x1 t19 h):=by kernel_rfl
theorem j11_eq:j11 P cl nu nu0 x0 x1 x5 h=(xbuiltin P .len [22] [x0] h).go .pan fun t20 h=>(l12 P cl nu nu x0 x1 x5 x0 t20 (.int .i64 0) h):=by kernel_rfl
theorem l12n:evT P cl an76 nu (s [1,1,1,1,0,1,0,0]) (kL P cl nu an76 25 [0,1,5,39,40,41] (s [1,1,1,1,0,1,0,0]) (k6 P cl nu)) [(0,x0),(1,x1),(5,x5),(39,x39),(40,x40),(41,x41)] h=(xbin P .lss 3 x41 x40 h).go .pan fun t21 h=>(j13 P cl nu nu x0 x1 x5 x39 x40 x41 t21 h):=by kernel_rfl
def l12_eq:=@id (l12 P cl nu0 nu0 x0 x1 x5 x39 x40 x41 h=_) (lpN (l12n P cl nu0 x0 x1 x5 x39 x40 x41 h))
theorem j13_eq:j13 P cl nu nu0 x0 x1 x5 x39 x40 x41 x42 h=ifV x42 (j13_1 P cl nu nu x0 x1 x5 x39 x40 x41 x42 h) (j18 P cl nu nu x0 x1 x5 h):=by kernel_rfl
theorem j13_1_eq:j13_1 P cl nu nu0 x0 x1 x5 x39 x40 x41 x42 h=(xindexAddr P 22 x39 x41 h).go .pan fun t22 h=>(xload P 9 t22 h).go .pan fun t23 h=>(xbuiltin P .len [9] [t23] h).go .pan fun t24 h=>(xbin P .sub 3 (.int .i64 9223372036854775807) x5 h).go .pan fun t25 h=>(xbin P .gtr 3 t24 t25 h).go .pan fun t26 h=>ifV t26 ((xmakeInterface P 9 (.string ⟨#[115,116,114,105,110,103,115,58,32,74,111,105,110,32,111,117,116,112,117,116,32,108,101,110,103,116,104,32,111,118,101,114,102,108,111,119]⟩) h).go .pan fun t27 h=>(panV t27 h).go .pan fun t28 h=>(xbuiltin P .len [9] [t23] h).go .pan fun t29 h=>(xbin P .add 3 x5 t29 h).go .pan fun t30 h=>(xbin P .add 3 x41 (.int .i64 1) h).go .pan fun t31 h=>(l12 P cl nu nu x0 x1 t30 x39 x40 t31 h)) ((xbuiltin P .len [9] [t23] h).go .pan fun t32 h=>(xbin P .add 3 x5 t32 h).go .pan fun t33 h=>(xbin P .add 3 x41 (.int .i64 1) h).go .pan fun t34 h=>(l12 P cl nu nu x0 x1 t33 x39 x40 t34 h)):=by kernel_rfl
theorem j18_eq:j18 P cl nu nu0 x0 x1 x5 h=(xalloc P 114 h).go .pan fun t35 h=>(cl (.f 109) [t35,x5] h).go .pan fun t36 h=>(xindexAddr P 22 x0 (.int .i64 0) h).go .pan fun t37 h=>(xload P 9 t37 h).go .pan fun t38 h=>(cl (.f 74) [t35,t38] h).go .pan fun t39 h=>(xslice P 22 x0 (some (.int .i64 1)) none none h).go .pan fun t40 h=>(xbuiltin P .len [22] [t40] h).go .pan fun t41 h=>(l22 P cl nu nu x1 t35 t40 t41 (.int .i64 0) h):=by kernel_rfl
theorem l22n:evT P cl an76 nu (s [1,1,1,1,1,1,1,1,0,1,0,0]) (kL P cl nu an76 45 [1,8,63,64,65] (s [1,1,1,1,1,1,1,1,0,1,0,0]) (k12 P cl nu)) [(1,x1),(8,x8),(63,x63),(64,x64),(65,x65)] h=(xbin P .lss 3 x65 x64 h).go .pan fun t42 h=>(j23 P cl nu nu x1 x8 x63 x64 x65 t42 h):=by kernel_rfl
def l22_eq:=@id (l22 P cl nu0 nu0 x1 x8 x63 x64 x65 h=_) (lpN (l22n P cl nu0 x1 x8 x63 x64 x65 h))
theorem j23_eq:j23 P cl nu nu0 x1 x8 x63 x64 x65 x66 h=ifV x66 (j23_1 P cl nu nu x1 x8 x63 x64 x65 x66 h) (j27 P cl nu nu x8 h):=by kernel_rfl
theorem j23_1_eq:j23_1 P cl nu nu0 x1 x8 x63 x64 x65 x66 h=(xindexAddr P 22 x63 x65 h).go .pan fun t43 h=>(xload P 9 t43 h).go .pan fun t44 h=>(cl (.f 74) [x8,x1] h).go .pan fun t45 h=>(cl (.f 74) [x8,t44] h).go .pan fun t46 h=>(xbin P .add 3 x65 (.int .i64 1) h).go .pan fun t47 h=>(l22 P cl nu nu x1 x8 x63 x64 t47 h):=by kernel_rfl
theorem j27_eq:j27 P cl nu nu0 x8 h=(cl (.f 79) [x8] h).go .pan fun t48 h=>.ok t48 h:=by kernel_rfl
theorem eq:runX P cl nu an76 Tryz.f76 [x0,x1] h=(xbuiltin P .len [22] [x0] h).go .pan fun t1 h=>(xbin P .eql 3 t1 (.int .i64 0) h).go .pan fun t2 h=>ifV t2 (.ok (.string ⟨#[]⟩) h) ((xbin P .eql 3 t1 (.int .i64 1) h).go .pan fun t3 h=>ifV t3 ((xindexAddr P 22 x0 (.int .i64 0) h).go .pan fun t4 h=>(xload P 9 t4 h).go .pan fun t5 h=>.ok t5 h) (j6 P cl nu nu x0 x1 h)):=by kernel_rfl
end
end F76
namespace F77
noncomputable section
variable (P:Program) (cl:Cl) (nu mu:Nu) (x0 x1 x3 x24 x25 x26 x27:Value) (h:H)
noncomputable def s:=sub (bodyOf Tryz.f77)
noncomputable def k0:Ko:=kfn P Tryz.f77.results.toList
def j3:=mu 6 (evT P cl an77 nu (s [1,1]) (k0 P)) [(0,x0),(3,x3)] h
def k2:Ko:=kC P cl nu an77 (s [1,1,1,1]) (k0 P)
def k3:Ko:=kblk 0 (k2 P cl nu)
def l5:=mu 11 (lC P cl nu an77 [0,3,24,25,26] (s [1,1,1,0,1,0,0]) (k3 P cl nu)) [(0,x0),(3,x3),(24,x24),(25,x25),(26,x26)] h
def k4:Ko:=kL P cl nu an77 11 [0,3,24,25,26] (s [1,1,1,0,1,0,0]) (k3 P cl nu)
def j6:=mu 12 (evT P cl an77 nu (s [1,1,1,0,1,0,0,1]) (k4 P cl nu)) [(0,x0),(3,x3),(24,x24),(25,x25),(26,x26),(27,x27)] h
def j6_1:=mu 12 (evT P cl an77 nu (s [1,1,1,0,1,0,0,1,1]) (k4 P cl nu)) [(0,x0),(3,x3),(24,x24),(25,x25),(26,x26),(27,x27)] h
def j11:=mu 22 (evT P cl an77 nu (s [1,1,1,1]) (k0 P)) [(0,x0),(3,x3)] h
theorem j3_eq:j3 P cl nu nu0 x0 x3 h=(xfieldAddr P 46 x3 0 h).ok1 fun t9 h=>(xload P 3 t9 h).ok1 fun t10 h=>(xfieldAddr P 46 x3 1 h).ok1 fun t11 h=>(xload P 9 t11 h).ok1 fun t12 h=>(cl (.f 111) [t10] h).go .pan fun t13 h=>bif (rc (xload P 9 t11 h) (some t12)&&true) then (bif plain2 t13 (.string ⟨#[40]⟩) then ((xbin P .add 9 t13 (.string ⟨#[40]⟩) h).ok1 fun t14 h=>bif plain2 t14 t12 then ((xbin P .add 9 t14 t12 h).ok1 fun t15 h=>(cl (.f 74) [x0,t15] h).go .pan fun t16 h=>(xfieldAddr P 46 x3 4 h).go .pan fun t17 h=>(xload P 44 t17 h).go .pan fun t18 h=>(xbuiltin P .len [44] [t18] h).go .pan fun t19 h=>(l5 P cl nu nu x0 x3 t18 t19 (.int .i64 0) h)) else .bad) else .bad) else .bad:=by kernel_rfl
theorem l5n:evT P cl an77 nu (s [1,1,1,0,1,0,0]) (kL P cl nu an77 11 [0,3,24,25,26] (s [1,1,1,0,1,0,0]) (k3 P cl nu)) [(0,x0),(3,x3),(24,x24),(25,x25),(26,x26)] h=(xbin P .lss 3 x26 x25 h).go .pan fun t20 h=>(j6 P cl nu nu x0 x3 x24 x25 x26 t20 h):=by kernel_rfl
def l5_eq:=@id (l5 P cl nu0 nu0 x0 x3 x24 x25 x26 h=_) (lpN (l5n P cl nu0 x0 x3 x24 x25 x26 h))
theorem j6_eq:j6 P cl nu nu0 x0 x3 x24 x25 x26 x27 h=ifV x27 (j6_1 P cl nu nu x0 x3 x24 x25 x26 x27 h) (j11 P cl nu nu x0 x3 h):=by kernel_rfl
theorem j6_1_eq:j6_1 P cl nu nu0 x0 x3 x24 x25 x26 x27 h=(xindexAddr P 44 x24 x26 h).go .pan fun t21 h=>(xload P 46 t21 h).go .pan fun t22 h=>(xalloc P 46 h).go .pan fun t23 h=>(xstore P 46 t23 t22 h).go .pan fun t24 h=>(xbin P .gtr 3 x26 (.int .i64 0) h).go .pan fun t25 h=>ifV t25 ((cl (.f 78) [x0,(.int .u8 44)] h).go .pan fun t26 h=>(xload P 46 t23 h).go .pan fun t27 h=>(cl (.f 77) [x0,t27] h).go .pan fun t28 h=>(xbin P .add 3 x26 (.int .i64 1) h).go .pan fun t29 h=>(l5 P cl nu nu x0 x3 x24 x25 t29 h)) ((xfieldAddr P 46 x3 1 h).go .pan fun t30 h=>(xload P 9 t30 h).go .pan fun t31 h=>(xbin P .neq 9 t31 (.string ⟨#[]⟩) h).go .pan fun t32 h=>ifV t32 ((cl (.f 78) [x0,(.int .u8 44)] h).go .pan fun t33 h=>(xload P 46 t23 h).go .pan fun t34 h=>(cl (.f 77) [x0,t34] h).go .pan fun t35 h=>(xbin P .add 3 x26 (.int .i64 1) h).go .pan fun t36 h=>(l5 P cl nu nu x0 x3 x24 x25 t36 h)) ((xload P 46 t23 h).go .pan fun t37 h=>(cl (.f 77) [x0,t37] h).go .pan fun t38 h=>(xbin P .add 3 x26 (.int .i64 1) h).go .pan fun t39 h=>(l5 P cl nu nu x0 x3 x24 x25 t39 h))):=by kernel_rfl
theorem j11_eq:j11 P cl nu nu0 x0 x3 h=(xfieldAddr P 46 x3 0 h).go .pan fun t40 h=>(xload P 3 t40 h).go .pan fun t41 h=>(xbin P .eql 3 t41 (.int .i64 7) h).go .pan fun t42 h=>ifV t42 ((xfieldAddr P 46 x3 2 h).ok1 fun t43 h=>(xload P 3 t43 h).ok1 fun t44 h=>(xfieldAddr P 46 x3 3 h).ok1 fun t45 h=>(xload P 3 t45 h).ok1 fun t46 h=>(cl (.f 75) [t44] h).go .pan fun t47 h=>bif (rc (xload P 3 t45 h) (some t46)&&true) then (bif plain2 (.string ⟨#[44]⟩) t47 then ((xbin P .add 9 (.string ⟨#[44]⟩) t47 h).ok1 fun t48 h=>bif plain2 t48 (.string ⟨#[44]⟩) then ((xbin P .add 9 t48 (.string ⟨#[44]⟩) h).ok1 fun t49 h=>(cl (.f 75) [t46] h).go .pan fun t50 h=>bif plain2 t49 t50 then ((xbin P .add 9 t49 t50 h).ok1 fun t51 h=>(cl (.f 74) [x0,t51] h).go .pan fun t52 h=>(cl (.f 78) [x0,(.int .u8 41)] h).go .pan fun t53 h=>.ok (.tuple ⟨[]⟩) h) else .bad) else .bad) else .bad) else .bad) ((cl (.f 78) [x0,(.int .u8 41)] h).go .pan fun t54 h=>.ok (.tuple ⟨[]⟩) h):=by kernel_rfl
theorem eq:runX P cl nu an77 Tryz.f77 [x0,x1] h=(xbox 46 x1 h).go .pan fun t1 h=>(xfieldAddr P 46 t1 0 h).go .pan fun t2 h=>(xload P 3 t2 h).go .pan fun t3 h=>(xbin P .eql 3 t3 (.int .i64 1) h).go .pan fun t4 h=>ifV t4 ((xfieldAddr P 46 t1 1 h).go .pan fun t5 h=>(xload P 9 t5 h).go .pan fun t6 h=>(cl (.f 110) [t6] h).go .pan fun t7 h=>(cl (.f 74) [x0,t7] h).go .pan fun t8 h=>.ok (.tuple ⟨[]⟩) h) (j3 P cl nu nu x0 t1 h):=by kernel_rfl
end
end F77
namespace F78
noncomputable section
variable (P:Program) (cl:Cl) (nu mu:Nu) (x0 x1:Value) (h:H)
theorem eq:runX P cl nu an78 Tryz.f78 [x0,x1] h=(cl (.f 107) [x0] h).go .pan fun t1 h=>(xnilCheck x0 h).go .pan fun t2 h=>(xfieldAddr P 114 t2 1 h).go .pan fun t3 h=>(xload P 71 t3 h).go .pan fun t4 h=>(xbuildSlice P 71 1 [(0,x1)] h).go .pan fun t5 h=>(xbuiltin P .append [71,71] [t4,t5] h).go .pan fun t6 h=>(xnilCheck x0 h).go .pan fun t7 h=>(xfieldAddr P 114 t7 1 h).go .pan fun t8 h=>(xstore P 71 t8 t6 h).go .pan fun t9 h=>.ok .nilIface h:=by kernel_rfl
end
end F78
namespace F79
noncomputable section
variable (P:Program) (cl:Cl) (nu mu:Nu) (x0:Value) (h:H)
theorem eq:runX P cl nu an79 Tryz.f79 [x0] h=(xnilCheck x0 h).ok1 fun t1 h=>(xfieldAddr P 114 t1 1 h).ok1 fun t2 h=>(xload P 71 t2 h).ok1 fun t3 h=>(xnilCheck x0 h).ok1 fun t4 h=>(xfieldAddr P 114 t4 1 h).ok1 fun t5 h=>(xload P 71 t5 h).ok1 fun t6 h=>bif (lenV t6).isSome then ((xbuiltin P .len [71] [t6] h).ok1 fun t7 h=>(xbuiltin P .unsafeSliceData [71] [t3] h).go .pan fun t8 h=>bif (rc (xload P 71 t5 h) (some t6)&&true) then ((xbuiltin P .unsafeString [164,3] [t8,t7] h).go .pan fun t9 h=>.ok t9 h) else .bad) else .bad:=by kernel_rfl
end
end F79
namespace F101
noncomputable section
variable (P:Program) (cl:Cl) (nu mu:Nu) (x0 x21 x22 x23:Value) (h:H)
noncomputable def s:=sub (bodyOf Tryz.f101)
noncomputable def k0:Ko:=kfn P Tryz.f101.results.toList
def j3:=mu 6 (evT P cl an101 nu (s [1,1]) (k0 P)) [(0,x0)] h
def k2:Ko:=kC P cl nu an101 (s [1,1,1]) (k0 P)
def k3:Ko:=kblk 0 (k2 P cl nu)
def l4:=mu 9 (lC P cl nu an101 [0,21,22] (s [1,1,0,1,0,0]) (k3 P cl nu)) [(0,x0),(21,x21),(22,x22)] h
def k4:Ko:=kL P cl nu an101 9 [0,21,22] (s [1,1,0,1,0,0]) (k3 P cl nu)
def j5:=mu 10 (evT P cl an101 nu (s [1,1,0,1,0,0,1]) (k4 P cl nu)) [(0,x0),(21,x21),(22,x22),(23,x23)] h
def j5_1:=mu 10 (evT P cl an101 nu (s [1,1,0,1,0,0,1,1]) (k4 P cl nu)) [(0,x0),(21,x21),(22,x22),(23,x23)] h
def j9:=mu 18 (evT P cl an101 nu (s [1,1,1]) (k0 P)) [] h
theorem j3_eq:j3 P cl nu nu0 x0 h=(xbuiltin P .len [9] [x0] h).go .pan fun t7 h=>(l4 P cl nu nu x0 t7 (.int .i64 0) h):=by kernel_rfl
theorem l4n:evT P cl an101 nu (s [1,1,0,1,0,0]) (kL P cl nu an101 9 [0,21,22] (s [1,1,0,1,0,0]) (k3 P cl nu)) [(0,x0),(21,x21),(22,x22)] h=(xbin P .lss 3 x22 x21 h).go .pan fun t8 h=>(j5 P cl nu nu x0 x21 x22 t8 h):=by kernel_rfl
def l4_eq:=@id (l4 P cl nu0 nu0 x0 x21 x22 h=_) (lpN (l4n P cl nu0 x0 x21 x22 h))
theorem j5_eq:j5 P cl nu nu0 x0 x21 x22 x23 h=ifV x23 (j5_1 P cl nu nu x0 x21 x22 x23 h) (j9 P cl nu nu h):=by kernel_rfl
theorem j5_1_eq:j5_1 P cl nu nu0 x0 x21 x22 x23 h=(xindex P 9 x0 x22 h).go .pan fun t9 h=>(cl (.f 137) [t9] h).go .pan fun t10 h=>(xun P .not t10 h).go .pan fun t11 h=>ifV t11 (.ok (.bool false) h) ((xbin P .add 3 x22 (.int .i64 1) h).go .pan fun t12 h=>(l4 P cl nu nu x0 x21 t12 h)):=by kernel_rfl
theorem j9_eq:j9 P cl nu nu0 h = .ok (.bool true) h:=by kernel_rfl
theorem eq:runX P cl nu an101 Tryz.f101 [x0] h=(xbuiltin P .len [9] [x0] h).go .pan fun t1 h=>(xbin P .lss 3 t1 (.int .i64 1) h).go .pan fun t2 h=>ifV t2 (.ok (.bool false) h) ((xbuiltin P .len [9] [x0] h).go .pan fun t3 h=>(xbin P .gtr 3 t3 (.int .i64 64) h).go .pan fun t4 h=>ifV t4 (.ok (.bool false) h) ((xbin P .eql 9 x0 (.string ⟨#[46]⟩) h).go .pan fun t5 h=>ifV t5 (.ok (.bool false) h) ((xbin P .eql 9 x0 (.string ⟨#[46,46]⟩) h).go .pan fun t6 h=>ifV t6 (.ok (.bool false) h) (j3 P cl nu nu x0 h)))):=by kernel_rfl
end
end F101
namespace F102
noncomputable section
variable (P:Program) (cl:Cl) (nu mu:Nu) (x0 x1 x2:Value) (h:H)
theorem eq:runX P cl nu an102 Tryz.f102 [x0,x1,x2] h=(xbin P .lss 3 x0 x1 h).go .pan fun t1 h=>ifV t1 (.ok (.bool true) h) ((xbin P .gtr 3 x0 x2 h).go .pan fun t2 h=>.ok t2 h):=by kernel_rfl
end
end F102
namespace F103
noncomputable section
variable (P:Program) (cl:Cl) (nu mu:Nu) (x0 x3 x4 x10 x11 x12 x13 x22 x23 x24 x25:Value) (h:H)
noncomputable def s:=sub (bodyOf Tryz.f103)
noncomputable def k0:Ko:=kfn P Tryz.f103.results.toList
def j3:=mu 6 (evT P cl an103 nu (s [1,1]) (k0 P)) [(0,x0)] h
def k2:Ko:=kC P cl nu an103 (s [1,1,1]) (k0 P)
def k3:Ko:=kblk 0 (k2 P cl nu)
def l4:=mu 9 (lC P cl nu an103 [0,10,11,12] (s [1,1,0,1,0,0]) (k3 P cl nu)) [(0,x0),(10,x10),(11,x11),(12,x12)] h
def k4:Ko:=kL P cl nu an103 9 [0,10,11,12] (s [1,1,0,1,0,0]) (k3 P cl nu)
def j5:=mu 10 (evT P cl an103 nu (s [1,1,0,1,0,0,1]) (k4 P cl nu)) [(0,x0),(10,x10),(11,x11),(12,x12),(13,x13)] h
def j5_1:=mu 10 (evT P cl an103 nu (s [1,1,0,1,0,0,1,1]) (k4 P cl nu)) [(0,x0),(10,x10),(11,x11),(12,x12),(13,x13)] h
def k5:Ko:=kC P cl nu an103 (s [1,1,0,1,0,0,1,1,1]) (k4 P cl nu)
def k6:Ko:=kblk 1 (k5 P cl nu)
def j15:=mu 30 (evT P cl an103 nu (s [1,1,1]) (k0 P)) [] h
def j8:=mu 16 (evT P cl an103 nu (s [1,1,0,1,0,0,1,1,0,0,1,1]) (k6 P cl nu)) [(0,x0),(3,x3),(4,x4),(10,x10),(11,x11),(12,x12)] h
def k8:Ko:=kblk 2 (k6 P cl nu)
def l9:=mu 19 (lC P cl nu an103 [0,4,10,11,12,22,23,24] (s [1,1,0,1,0,0,1,1,0,0,1,1,1,0,0]) (k8 P cl nu)) [(0,x0),(4,x4),(10,x10),(11,x11),(12,x12),(22,x22),(23,x23),(24,x24)] h
def k9:Ko:=kL P cl nu an103 19 [0,4,10,11,12,22,23,24] (s [1,1,0,1,0,0,1,1,0,0,1,1,1,0,0]) (k8 P cl nu)
def j10:=mu 20 (evT P cl an103 nu (s [1,1,0,1,0,0,1,1,0,0,1,1,1,0,0,1]) (k9 P cl nu)) [(0,x0),(4,x4),(10,x10),(11,x11),(12,x12),(22,x22),(23,x23),(24,x24),(25,x25)] h
def j10_1:=mu 20 (evT P cl an103 nu (s [1,1,0,1,0,0,1,1,0,0,1,1,1,0,0,1,1]) (k9 P cl nu)) [(0,x0),(4,x4),(10,x10),(11,x11),(12,x12),(22,x22),(23,x23),(24,x24),(25,x25)] h
def j14:=mu 28 (evT P cl an103 nu (s [1,1,0,1,0,0,1,1,1]) (k4 P cl nu)) [(0,x0),(10,x10),(11,x11),(12,x12)] h
theorem j3_eq:j3 P cl nu nu0 x0 h=(xbuiltin P .len [22] [x0] h).go .pan fun t3 h=>(l4 P cl nu nu x0 x0 t3 (.int .i64 0) h):=by kernel_rfl
theorem l4n:evT P cl an103 nu (s [1,1,0,1,0,0]) (kL P cl nu an103 9 [0,10,11,12] (s [1,1,0,1,0,0]) (k3 P cl nu)) [(0,x0),(10,x10),(11,x11),(12,x12)] h=(xbin P .lss 3 x12 x11 h).go .pan fun t4 h=>(j5 P cl nu nu x0 x10 x11 x12 t4 h):=by kernel_rfl
def l4_eq:=@id (l4 P cl nu0 nu0 x0 x10 x11 x12 h=_) (lpN (l4n P cl nu0 x0 x10 x11 x12 h))
theorem j5_eq:j5 P cl nu nu0 x0 x10 x11 x12 x13 h=ifV x13 (j5_1 P cl nu nu x0 x10 x11 x12 x13 h) (j15 P cl nu nu h):=by kernel_rfl
theorem j5_1_eq:j5_1 P cl nu nu0 x0 x10 x11 x12 x13 h=(xindexAddr P 22 x10 x12 h).go .pan fun t5 h=>(xload P 9 t5 h).go .pan fun t6 h=>(cl (.f 104) [t6] h).go .pan fun t7 h=>(xun P .not t7 h).go .pan fun t8 h=>ifV t8 (.ok (.bool false) h) (j8 P cl nu nu x0 x12 t6 x10 x11 x12 h):=by kernel_rfl
theorem j15_eq:j15 P cl nu nu0 h = .ok (.bool true) h:=by kernel_rfl
theorem j8_eq:j8 P cl nu nu0 x0 x3 x4 x10 x11 x12 h=(xslice P 22 x0 none (some x3) none h).go .pan fun t9 h=>(xbuiltin P .len [22] [t9] h).go .pan fun t10 h=>(l9 P cl nu nu x0 x4 x10 x11 x12 t9 t10 (.int .i64 0) h):=by kernel_rfl
theorem l9n:evT P cl an103 nu (s [1,1,0,1,0,0,1,1,0,0,1,1,1,0,0]) (kL P cl nu an103 19 [0,4,10,11,12,22,23,24] (s [1,1,0,1,0,0,1,1,0,0,1,1,1,0,0]) (k8 P cl nu)) [(0,x0),(4,x4),(10,x10),(11,x11),(12,x12),(22,x22),(23,x23),(24,x24)] h=(xbin P .lss 3 x24 x23 h).go .pan fun t11 h=>(j10 P cl nu nu x0 x4 x10 x11 x12 x22 x23 x24 t11 h):=by kernel_rfl
def l9_eq:=@id (l9 P cl nu0 nu0 x0 x4 x10 x11 x12 x22 x23 x24 h=_) (lpN (l9n P cl nu0 x0 x4 x10 x11 x12 x22 x23 x24 h))
theorem j10_eq:j10 P cl nu nu0 x0 x4 x10 x11 x12 x22 x23 x24 x25 h=ifV x25 (j10_1 P cl nu nu x0 x4 x10 x11 x12 x22 x23 x24 x25 h) (j14 P cl nu nu x0 x10 x11 x12 h):=by kernel_rfl
theorem j10_1_eq:j10_1 P cl nu nu0 x0 x4 x10 x11 x12 x22 x23 x24 x25 h=(xindexAddr P 22 x22 x24 h).go .pan fun t12 h=>(xload P 9 t12 h).go .pan fun t13 h=>(xbin P .eql 9 x4 t13 h).go .pan fun t14 h=>ifV t14 (.ok (.bool false) h) ((xbin P .add 3 x24 (.int .i64 1) h).go .pan fun t15 h=>(l9 P cl nu nu x0 x4 x10 x11 x12 x22 x23 t15 h)):=by kernel_rfl
theorem j14_eq:j14 P cl nu nu0 x0 x10 x11 x12 h=(xbin P .add 3 x12 (.int .i64 1) h).go .pan fun t16 h=>(l4 P cl nu nu x0 x10 x11 t16 h):=by kernel_rfl
theorem eq:runX P cl nu an103 Tryz.f103 [x0] h=(xbuiltin P .len [22] [x0] h).go .pan fun t1 h=>(xbin P .gtr 3 t1 (.int .i64 64) h).go .pan fun t2 h=>ifV t2 (.ok (.bool false) h) (j3 P cl nu nu x0 h):=by kernel_rfl
end
end F103
namespace F104
noncomputable section
variable (P:Program) (cl:Cl) (nu mu:Nu) (x0:Value) (h:H)
theorem eq:runX P cl nu an104 Tryz.f104 [x0] h=(cl (.f 138) [x0] h).go .pan fun t1 h=>(xextract t1 0 h).go .pan fun t2 h=>(xextract t1 1 h).go .pan fun t3 h=>(xextract t1 2 h).go .pan fun t4 h=>(xbin P .eql 33 t3 (.int .i64 0) h).go .pan fun t5 h=>.ok t5 h:=by kernel_rfl
end
end F104
namespace F105
noncomputable section
variable (P:Program) (cl:Cl) (nu mu:Nu) (x0 x1 x2 x97 x98 x99 x100:Value) (h:H)
noncomputable def s:=sub (bodyOf Tryz.f105)
noncomputable def k0:Ko:=kfn P Tryz.f105.results.toList
def j3:=mu 6 (evT P cl an105 nu (s [1,1]) (k0 P)) [(1,x1),(2,x2)] h
def j7:=mu 14 (evT P cl an105 nu (s [1,1,1,1,1]) (k0 P)) [(1,x1),(2,x2)] h
def j18:=mu 36 (evT P cl an105 nu (s [1,1,1,1,1,1]) (k0 P)) [(1,x1),(2,x2)] h
def k5:Ko:=kC P cl nu an105 (s [1,1,1,1,1,1,1]) (k0 P)
def k6:Ko:=kblk 1 (k5 P cl nu)
def l19:=mu 39 (lC P cl nu an105 [1,97,98,99] (s [1,1,1,1,1,1,0,1,0,0]) (k6 P cl nu)) [(1,x1),(97,x97),(98,x98),(99,x99)] h
def k7:Ko:=kL P cl nu an105 39 [1,97,98,99] (s [1,1,1,1,1,1,0,1,0,0]) (k6 P cl nu)
def j20:=mu 40 (evT P cl an105 nu (s [1,1,1,1,1,1,0,1,0,0,1]) (k7 P cl nu)) [(1,x1),(97,x97),(98,x98),(99,x99),(100,x100)] h
def j20_1:=mu 40 (evT P cl an105 nu (s [1,1,1,1,1,1,0,1,0,0,1,1]) (k7 P cl nu)) [(1,x1),(97,x97),(98,x98),(99,x99),(100,x100)] h
def j24:=mu 48 (evT P cl an105 nu (s [1,1,1,1,1,1,1]) (k0 P)) [] h
theorem j3_eq:j3 P cl nu nu0 x1 x2 h=(xfieldAddr P 46 x2 0 h).go .pan fun t12 h=>(xload P 3 t12 h).go .pan fun t13 h=>(cl (.f 111) [t13] h).go .pan fun t14 h=>(cl (.f 139) [t14] h).go .pan fun t15 h=>(xextract t15 0 h).go .pan fun t16 h=>(xextract t15 1 h).go .pan fun t17 h=>(xbin P .eql 9 t14 (.string ⟨#[]⟩) h).go .pan fun t18 h=>ifV t18 ((xfieldAddr P 46 x2 0 h).go .pan fun t19 h=>(xload P 3 t19 h).go .pan fun t20 h=>(xbin P .neq 3 t20 (.int .i64 1) h).go .pan fun t21 h=>ifV t21 (.ok (.bool false) h) ((xbin P .geq 3 t17 (.int .i64 0) h).go .pan fun t22 h=>ifV t22 ((xfieldAddr P 46 x2 4 h).go .pan fun t23 h=>(xload P 44 t23 h).go .pan fun t24 h=>(xbuiltin P .len [44] [t24] h).go .pan fun t25 h=>(xbin P .neq 3 t25 t17 h).go .pan fun t26 h=>ifV t26 (.ok (.bool false) h) ((xbin P .lss 3 t17 (.int .i64 0) h).go .pan fun t27 h=>ifV t27 ((xfieldAddr P 46 x2 4 h).go .pan fun t28 h=>(xload P 44 t28 h).go .pan fun t29 h=>(xbuiltin P .len [44] [t29] h).go .pan fun t30 h=>(xbin P .eql 3 t30 (.int .i64 0) h).go .pan fun t31 h=>ifV t31 (.ok (.bool false) h) (j7 P cl nu nu x1 x2 h)) (j7 P cl nu nu x1 x2 h))) ((xbin P .lss 3 t17 (.int .i64 0) h).go .pan fun t32 h=>ifV t32 ((xfieldAddr P 46 x2 4 h).go .pan fun t33 h=>(xload P 44 t33 h).go .pan fun t34 h=>(xbuiltin P .len [44] [t34] h).go .pan fun t35 h=>(xbin P .eql 3 t35 (.int .i64 0) h).go .pan fun t36 h=>ifV t36 (.ok (.bool false) h) (j7 P cl nu nu x1 x2 h)) (j7 P cl nu nu x1 x2 h)))) ((xbin P .geq 3 t17 (.int .i64 0) h).go .pan fun t37 h=>ifV t37 ((xfieldAddr P 46 x2 4 h).go .pan fun t38 h=>(xload P 44 t38 h).go .pan fun t39 h=>(xbuiltin P .len [44] [t39] h).go .pan fun t40 h=>(xbin P .neq 3 t40 t17 h).go .pan fun t41 h=>ifV t41 (.ok (.bool false) h) ((xbin P .lss 3 t17 (.int .i64 0) h).go .pan fun t42 h=>ifV t42 ((xfieldAddr P 46 x2 4 h).go .pan fun t43 h=>(xload P 44 t43 h).go .pan fun t44 h=>(xbuiltin P .len [44] [t44] h).go .pan fun t45 h=>(xbin P .eql 3 t45 (.int .i64 0) h).go .pan fun t46 h=>ifV t46 (.ok (.bool false) h) (j7 P cl nu nu x1 x2 h)) (j7 P cl nu nu x1 x2 h))) ((xbin P .lss 3 t17 (.int .i64 0) h).go .pan fun t47 h=>ifV t47 ((xfieldAddr P 46 x2 4 h).go .pan fun t48 h=>(xload P 44 t48 h).go .pan fun t49 h=>(xbuiltin P .len [44] [t49] h).go .pan fun t50 h=>(xbin P .eql 3 t50 (.int .i64 0) h).go .pan fun t51 h=>ifV t51 (.ok (.bool false) h) (j7 P cl nu nu x1 x2 h)) (j7 P cl nu nu x1 x2 h))):=by kernel_rfl
theorem j7_eq:j7 P cl nu nu0 x1 x2 h=(xfieldAddr P 46 x2 0 h).go .pan fun t52 h=>(xload P 3 t52 h).go .pan fun t53 h=>(xbin P .eql 3 t53 (.int .i64 1) h).go .pan fun t54 h=>ifV t54 (j18 P cl nu nu x1 x2 h) ((xbin P .eql 3 t53 (.int .i64 2) h).go .pan fun t55 h=>ifV t55 ((xfieldAddr P 46 x2 1 h).go .pan fun t56 h=>(xload P 9 t56 h).go .pan fun t57 h=>(cl (.f 104) [t57] h).go .pan fun t58 h=>.ok t58 h) ((xbin P .eql 3 t53 (.int .i64 3) h).go .pan fun t59 h=>ifV t59 ((xfieldAddr P 46 x2 1 h).go .pan fun t60 h=>(xload P 9 t60 h).go .pan fun t61 h=>(cl (.f 101) [t61] h).go .pan fun t62 h=>.ok t62 h) ((xbin P .eql 3 t53 (.int .i64 13) h).go .pan fun t63 h=>ifV t63 ((xfieldAddr P 46 x2 1 h).go .pan fun t64 h=>(xload P 9 t64 h).go .pan fun t65 h=>(cl (.f 101) [t65] h).go .pan fun t66 h=>(xun P .not t66 h).go .pan fun t67 h=>ifV t67 (.ok (.bool false) h) (j18 P cl nu nu x1 x2 h)) ((xfieldAddr P 46 x2 1 h).go .pan fun t68 h=>(xload P 9 t68 h).go .pan fun t69 h=>(xbin P .neq 9 t69 (.string ⟨#[]⟩) h).go .pan fun t70 h=>ifV t70 (.ok (.bool false) h) ((xfieldAddr P 46 x2 2 h).go .pan fun t71 h=>(xload P 3 t71 h).go .pan fun t72 h=>(cl (.f 102) [t72,(.int .i64 0),(.int .i64 2147483647)] h).go .pan fun t73 h=>ifV t73 (.ok (.bool false) h) ((xfieldAddr P 46 x2 3 h).go .pan fun t74 h=>(xload P 3 t74 h).go .pan fun t75 h=>(cl (.f 102) [t75,(.int .i64 0),(.int .i64 2147483647)] h).go .pan fun t76 h=>ifV t76 (.ok (.bool false) h) (j18 P cl nu nu x1 x2 h))))))):=by kernel_rfl
theorem j18_eq:j18 P cl nu nu0 x1 x2 h=(xfieldAddr P 46 x2 4 h).go .pan fun t77 h=>(xload P 44 t77 h).go .pan fun t78 h=>(xbuiltin P .len [44] [t78] h).go .pan fun t79 h=>(l19 P cl nu nu x1 t78 t79 (.int .i64 0) h):=by kernel_rfl
theorem l19n:evT P cl an105 nu (s [1,1,1,1,1,1,0,1,0,0]) (kL P cl nu an105 39 [1,97,98,99] (s [1,1,1,1,1,1,0,1,0,0]) (k6 P cl nu)) [(1,x1),(97,x97),(98,x98),(99,x99)] h=(xbin P .lss 3 x99 x98 h).go .pan fun t80 h=>(j20 P cl nu nu x1 x97 x98 x99 t80 h):=by kernel_rfl
def l19_eq:=@id (l19 P cl nu0 nu0 x1 x97 x98 x99 h=_) (lpN (l19n P cl nu0 x1 x97 x98 x99 h))
theorem j20_eq:j20 P cl nu nu0 x1 x97 x98 x99 x100 h=ifV x100 (j20_1 P cl nu nu x1 x97 x98 x99 x100 h) (j24 P cl nu nu h):=by kernel_rfl
theorem j20_1_eq:j20_1 P cl nu nu0 x1 x97 x98 x99 x100 h=(xindexAddr P 44 x97 x99 h).go .pan fun t81 h=>(xload P 46 t81 h).go .pan fun t82 h=>(xalloc P 46 h).go .pan fun t83 h=>(xstore P 46 t83 t82 h).go .pan fun t84 h=>(xload P 46 t83 h).go .pan fun t85 h=>(xbin P .add 3 x1 (.int .i64 1) h).go .pan fun t86 h=>(cl (.f 105) [t85,t86] h).go .pan fun t87 h=>(xun P .not t87 h).go .pan fun t88 h=>ifV t88 (.ok (.bool false) h) ((xbin P .add 3 x99 (.int .i64 1) h).go .pan fun t89 h=>(l19 P cl nu nu x1 x97 x98 t89 h)):=by kernel_rfl
theorem j24_eq:j24 P cl nu nu0 h = .ok (.bool true) h:=by kernel_rfl
theorem eq:runX P cl nu an105 Tryz.f105 [x0,x1] h=(xbox 46 x0 h).go .pan fun t1 h=>(xbin P .gtr 3 x1 (.int .i64 64) h).go .pan fun t2 h=>ifV t2 (.ok (.bool false) h) ((xfieldAddr P 46 t1 0 h).go .pan fun t3 h=>(xload P 3 t3 h).go .pan fun t4 h=>(xbin P .neq 3 t4 (.int .i64 7) h).go .pan fun t5 h=>ifV t5 ((xfieldAddr P 46 t1 2 h).go .pan fun t6 h=>(xload P 3 t6 h).go .pan fun t7 h=>(xbin P .neq 3 t7 (.int .i64 0) h).go .pan fun t8 h=>ifV t8 (.ok (.bool false) h) ((xfieldAddr P 46 t1 3 h).go .pan fun t9 h=>(xload P 3 t9 h).go .pan fun t10 h=>(xbin P .neq 3 t10 (.int .i64 0) h).go .pan fun t11 h=>ifV t11 (.ok (.bool false) h) (j3 P cl nu nu x1 t1 h))) (j3 P cl nu nu x1 t1 h)):=by kernel_rfl
end
end F105
namespace F106
noncomputable section
variable (P:Program) (cl:Cl) (nu mu:Nu) (x0 x1:Value) (h:H)
theorem eq:runX P cl nu an106 Tryz.f106 [x0,x1] h=(xbin P .eql 9 x0 (.string ⟨#[]⟩) h).go .pan fun t1 h=>ifV t1 (.ok (.bool true) h) ((xbin P .eql 9 x0 x1 h).go .pan fun t2 h=>ifV t2 (.ok (.bool true) h) ((xbuiltin P .len [9] [x1] h).go .pan fun t3 h=>(xbuiltin P .len [9] [x0] h).go .pan fun t4 h=>(xbin P .gtr 3 t3 t4 h).go .pan fun t5 h=>ifV t5 ((xbuiltin P .len [9] [x0] h).go .pan fun t6 h=>(xindex P 9 x1 t6 h).go .pan fun t7 h=>(xbin P .eql 5 t7 (.int .u8 47) h).go .pan fun t8 h=>ifV t8 ((xbuiltin P .len [9] [x0] h).go .pan fun t9 h=>(xslice P 9 x1 none (some t9) none h).go .pan fun t10 h=>(xbin P .eql 9 t10 x0 h).go .pan fun t11 h=>.ok t11 h) (.ok (.bool false) h)) (.ok (.bool false) h))):=by kernel_rfl
end
end F106
namespace F107
noncomputable section
variable (P:Program) (cl:Cl) (nu mu:Nu) (x0:Value) (h:H)
theorem eq:runX P cl nu an107 Tryz.f107 [x0] h=(xnilCheck x0 h).go .pan fun t1 h=>(xfieldAddr P 114 t1 0 h).go .pan fun t2 h=>(xload P 112 t2 h).go .pan fun t3 h=>(xbin P .eql 112 t3 (.pointer none) h).go .pan fun t4 h=>ifV t4 ((xconvert P 112 191 x0 h).go .pan fun t5 h=>(cl (.f 140) [t5] h).go .pan fun t6 h=>(xconvert P 191 112 t6 h).go .pan fun t7 h=>(xnilCheck x0 h).go .pan fun t8 h=>(xfieldAddr P 114 t8 0 h).go .pan fun t9 h=>(xstore P 112 t9 t7 h).go .pan fun t10 h=>.ok (.tuple ⟨[]⟩) h) ((xnilCheck x0 h).go .pan fun t11 h=>(xfieldAddr P 114 t11 0 h).go .pan fun t12 h=>(xload P 112 t12 h).go .pan fun t13 h=>(xbin P .neq 112 t13 x0 h).go .pan fun t14 h=>ifV t14 .bad (.ok (.tuple ⟨[]⟩) h)):=by kernel_rfl
end
end F107
namespace F108
noncomputable section
variable (P:Program) (cl:Cl) (nu mu:Nu) (x0:Value) (h:H)
theorem eq:runX P cl nu an108 Tryz.f108 [x0] h=(cl (.f 141) [x0] h).go .pan fun t1 h=>.ok t1 h:=by kernel_rfl
end
end F108
namespace F109
noncomputable section
variable (P:Program) (cl:Cl) (nu mu:Nu) (x0 x1:Value) (h:H)
noncomputable def s:=sub (bodyOf Tryz.f109)
noncomputable def k0:Ko:=kfn P Tryz.f109.results.toList
def j3:=mu 6 (evT P cl an109 nu (s [1,1]) (k0 P)) [(0,x0),(1,x1)] h
theorem j3_eq:j3 P cl nu nu0 x0 x1 h=(xnilCheck x0 h).ok1 fun t5 h=>(xfieldAddr P 114 t5 1 h).ok1 fun t6 h=>(xload P 71 t6 h).ok1 fun t7 h=>(xnilCheck x0 h).ok1 fun t8 h=>(xfieldAddr P 114 t8 1 h).ok1 fun t9 h=>(xload P 71 t9 h).ok1 fun t10 h=>bif (lenV t10).isSome then ((xbuiltin P .len [71] [t10] h).ok1 fun t11 h=>(xbuiltin P .cap [71] [t7] h).go .pan fun t12 h=>bif (rc (xload P 71 t9 h) (some t10)&&true) then (bif plain2 t12 t11 then ((xbin P .sub 3 t12 t11 h).ok1 fun t13 h=>bif plain2 t13 x1 then ((xbin P .lss 3 t13 x1 h).ok1 fun t14 h=>ifV t14 ((cl (.f 142) [x0,x1] h).go .pan fun t15 h=>.ok (.tuple ⟨[]⟩) h) (.ok (.tuple ⟨[]⟩) h)) else .bad) else .bad) else .bad) else .bad:=by kernel_rfl
theorem eq:runX P cl nu an109 Tryz.f109 [x0,x1] h=(cl (.f 107) [x0] h).go .pan fun t1 h=>(xbin P .lss 3 x1 (.int .i64 0) h).go .pan fun t2 h=>ifV t2 ((xmakeInterface P 9 (.string ⟨#[115,116,114,105,110,103,115,46,66,117,105,108,100,101,114,46,71,114,111,119,58,32,110,101,103,97,116,105,118,101,32,99,111,117,110,116]⟩) h).go .pan fun t3 h=>(panV t3 h).go .pan fun t4 h=>(j3 P cl nu nu x0 x1 h)) (j3 P cl nu nu x0 x1 h):=by kernel_rfl
end
end F109
namespace F110
noncomputable section
variable (P:Program) (cl:Cl) (nu mu:Nu) (x0 x3 x5 x8 x9 x10 x19 x23 x24 x36 x40 x41:Value) (h:H)
noncomputable def s:=sub (bodyOf Tryz.f110)
noncomputable def k0:Ko:=kfn P Tryz.f110.results.toList
def k1:Ko:=kC P cl nu an110 (s [1,1,1]) (k0 P)
def k2:Ko:=kblk 0 (k1 P cl nu)
def l3:=mu 7 (lC P cl nu an110 [0,3,8,9] (s [1,1,0,1,0,0]) (k2 P cl nu)) [(0,x0),(3,x3),(8,x8),(9,x9)] h
def k3:Ko:=kL P cl nu an110 7 [0,3,8,9] (s [1,1,0,1,0,0]) (k2 P cl nu)
def j4:=mu 8 (evT P cl an110 nu (s [1,1,0,1,0,0,1]) (k3 P cl nu)) [(0,x0),(3,x3),(8,x8),(9,x9),(10,x10)] h
def j4_1:=mu 8 (evT P cl an110 nu (s [1,1,0,1,0,0,1,1]) (k3 P cl nu)) [(0,x0),(3,x3),(8,x8),(9,x9),(10,x10)] h
def k4:Ko:=kC P cl nu an110 (s [1,1,0,1,0,0,1,1,1]) (k3 P cl nu)
def k5:Ko:=kblk 1 (k4 P cl nu)
def k6:Ko:=kblk 2 (k5 P cl nu)
def j14:=mu 28 (evT P cl an110 nu (s [1,1,1]) (k0 P)) [(3,x3)] h
def j8:=mu 16 (evT P cl an110 nu (s [1,1,0,1,0,0,1,1,0,0,1,1,0,1]) (k6 P cl nu)) [(0,x0),(3,x3),(5,x5),(8,x8),(9,x9),(19,x19),(23,x23),(24,x24)] h
def j12:=mu 24 (evT P cl an110 nu (s [1,1,0,1,0,0,1,1,0,0,1,1,0,1,1,1,1,1]) (k6 P cl nu)) [(0,x0),(3,x3),(5,x5),(8,x8),(9,x9),(23,x23),(24,x24),(36,x36),(40,x40),(41,x41)] h
theorem l3n:evT P cl an110 nu (s [1,1,0,1,0,0]) (kL P cl nu an110 7 [0,3,8,9] (s [1,1,0,1,0,0]) (k2 P cl nu)) [(0,x0),(3,x3),(8,x8),(9,x9)] h=(xbin P .lss 3 x9 x8 h).go .pan fun t3 h=>(j4 P cl nu nu x0 x3 x8 x9 t3 h):=by kernel_rfl
def l3_eq:=@id (l3 P cl nu0 nu0 x0 x3 x8 x9 h=_) (lpN (l3n P cl nu0 x0 x3 x8 x9 h))
theorem j4_eq:j4 P cl nu nu0 x0 x3 x8 x9 x10 h=ifV x10 (j4_1 P cl nu nu x0 x3 x8 x9 x10 h) (j14 P cl nu nu x3 h):=by kernel_rfl
theorem j4_1_eq:j4_1 P cl nu nu0 x0 x3 x8 x9 x10 h=(xindex P 9 x0 x9 h).go .pan fun t4 h=>(xbin P .eql 5 t4 (.int .u8 34) h).go .pan fun t5 h=>ifV t5 (j8 P cl nu nu x0 x3 t4 x8 x9 (.bool true) (.tuple #[]) (.tuple #[]) h) ((xbin P .eql 5 t4 (.int .u8 92) h).go .pan fun t6 h=>(j8 P cl nu nu x0 x3 t4 x8 x9 t6 t4 t6 h)):=by kernel_rfl
theorem j14_eq:j14 P cl nu nu0 x3 h=(xbuildSlice P 71 1 [(0,(.int .u8 34))] h).go .pan fun t7 h=>(xbuiltin P .append [71,71] [x3,t7] h).go .pan fun t8 h=>(xconvert P 71 9 t8 h).go .pan fun t9 h=>.ok t9 h:=by kernel_rfl
theorem j8_eq:j8 P cl nu nu0 x0 x3 x5 x8 x9 x19 x23 x24 h=ifV x19 ((xbuildSlice P 71 2 [(0,(.int .u8 92)),(1,x5)] h).go .pan fun t10 h=>(xbuiltin P .append [71,71] [x3,t10] h).go .pan fun t11 h=>(xbin P .add 3 x9 (.int .i64 1) h).go .pan fun t12 h=>(l3 P cl nu nu x0 t11 x8 t12 h)) ((xbin P .eql 5 x5 (.int .u8 10) h).go .pan fun t13 h=>ifV t13 ((xbuildSlice P 71 2 [(0,(.int .u8 92)),(1,(.int .u8 110))] h).go .pan fun t14 h=>(xbuiltin P .append [71,71] [x3,t14] h).go .pan fun t15 h=>(xbin P .add 3 x9 (.int .i64 1) h).go .pan fun t16 h=>(l3 P cl nu nu x0 t15 x8 t16 h)) ((xbin P .lss 5 x5 (.int .u8 32) h).go .pan fun t17 h=>ifV t17 (j12 P cl nu nu x0 x3 x5 x8 x9 x23 x24 (.bool true) (.tuple #[]) (.tuple #[]) h) ((xbin P .gtr 5 x5 (.int .u8 126) h).go .pan fun t18 h=>(j12 P cl nu nu x0 x3 x5 x8 x9 x23 x24 t18 x5 t18 h)))):=by kernel_rfl
theorem j12_eq:j12 P cl nu nu0 x0 x3 x5 x8 x9 x23 x24 x36 x40 x41 h=ifV x36 (bif plain2 x5 (.int .u64 4) then ((xbin P .shr 5 x5 (.int .u64 4) h).ok1 fun t19 h=>(xindex P 9 (.string ⟨#[48,49,50,51,52,53,54,55,56,57,97,98,99,100,101,102]⟩) t19 h).ok1 fun t20 h=>bif plain2 x5 (.int .u8 15) then ((xbin P .and 5 x5 (.int .u8 15) h).ok1 fun t21 h=>(xindex P 9 (.string ⟨#[48,49,50,51,52,53,54,55,56,57,97,98,99,100,101,102]⟩) t21 h).ok1 fun t22 h=>(xbuildSlice P 71 4 [(0,(.int .u8 92)),(1,(.int .u8 120)),(2,t20),(3,t22)] h).go .pan fun t23 h=>(xbuiltin P .append [71,71] [x3,t23] h).go .pan fun t24 h=>(xbin P .add 3 x9 (.int .i64 1) h).go .pan fun t25 h=>(l3 P cl nu nu x0 t24 x8 t25 h)) else .bad) else .bad) ((xbuildSlice P 71 1 [(0,x5)] h).go .pan fun t26 h=>(xbuiltin P .append [71,71] [x3,t26] h).go .pan fun t27 h=>(xbin P .add 3 x9 (.int .i64 1) h).go .pan fun t28 h=>(l3 P cl nu nu x0 t27 x8 t28 h)):=by kernel_rfl
theorem eq:runX P cl nu an110 Tryz.f110 [x0] h=(xbuildSlice P 71 1 [(0,(.int .u8 34))] h).go .pan fun t1 h=>(xbuiltin P .len [9] [x0] h).go .pan fun t2 h=>(l3 P cl nu nu x0 t1 t2 (.int .i64 0) h):=by kernel_rfl
end
end F110
namespace F111
noncomputable section
variable (P:Program) (cl:Cl) (nu mu:Nu) (x0:Value) (h:H)
theorem eq:runX P cl nu an111 Tryz.f111 [x0] h=(xbin P .eql 3 x0 (.int .i64 2) h).go .pan fun t1 h=>ifV t1 (.ok (.string ⟨#[105,110]⟩) h) ((xbin P .eql 3 x0 (.int .i64 3) h).go .pan fun t2 h=>ifV t2 (.ok (.string ⟨#[118,97,114]⟩) h) ((xbin P .eql 3 x0 (.int .i64 4) h).go .pan fun t3 h=>ifV t3 (.ok (.string ⟨#[99,97,116]⟩) h) ((xbin P .eql 3 x0 (.int .i64 5) h).go .pan fun t4 h=>ifV t4 (.ok (.string ⟨#[117,112,112,101,114]⟩) h) ((xbin P .eql 3 x0 (.int .i64 6) h).go .pan fun t5 h=>ifV t5 (.ok (.string ⟨#[108,111,119,101,114]⟩) h) ((xbin P .eql 3 x0 (.int .i64 7) h).go .pan fun t6 h=>ifV t6 (.ok (.string ⟨#[108,105,110,101,115]⟩) h) ((xbin P .eql 3 x0 (.int .i64 8) h).go .pan fun t7 h=>ifV t7 (.ok (.string ⟨#[115,111,114,116]⟩) h) ((xbin P .eql 3 x0 (.int .i64 9) h).go .pan fun t8 h=>ifV t8 (.ok (.string ⟨#[117,110,105,113]⟩) h) ((xbin P .eql 3 x0 (.int .i64 10) h).go .pan fun t9 h=>ifV t9 (.ok (.string ⟨#[114,101,112,108,97,99,101]⟩) h) ((xbin P .eql 3 x0 (.int .i64 11) h).go .pan fun t10 h=>ifV t10 (.ok (.string ⟨#[99,111,117,110,116]⟩) h) ((xbin P .eql 3 x0 (.int .i64 12) h).go .pan fun t11 h=>ifV t11 (.ok (.string ⟨#[105,102]⟩) h) ((xbin P .eql 3 x0 (.int .i64 13) h).go .pan fun t12 h=>ifV t12 (.ok (.string ⟨#[101,97,99,104]⟩) h) ((xbin P .eql 3 x0 (.int .i64 14) h).go .pan fun t13 h=>ifV t13 (.ok (.string ⟨#[107,101,121]⟩) h) ((xbin P .eql 3 x0 (.int .i64 15) h).go .pan fun t14 h=>ifV t14 (.ok (.string ⟨#[102,97,105,108]⟩) h) (.ok (.string ⟨#[]⟩) h)))))))))))))):=by kernel_rfl
end
end F111
namespace F137
noncomputable section
variable (P:Program) (cl:Cl) (nu mu:Nu) (x0:Value) (h:H)
theorem eq:runX P cl nu an137 Tryz.f137 [x0] h=(xbin P .geq 5 x0 (.int .u8 97) h).go .pan fun t1 h=>ifV t1 ((xbin P .leq 5 x0 (.int .u8 122) h).go .pan fun t2 h=>ifV t2 (.ok (.bool true) h) ((xbin P .geq 5 x0 (.int .u8 65) h).go .pan fun t3 h=>ifV t3 ((xbin P .leq 5 x0 (.int .u8 90) h).go .pan fun t4 h=>ifV t4 (.ok (.bool true) h) ((xbin P .geq 5 x0 (.int .u8 48) h).go .pan fun t5 h=>ifV t5 ((xbin P .leq 5 x0 (.int .u8 57) h).go .pan fun t6 h=>ifV t6 (.ok (.bool true) h) ((xbin P .eql 5 x0 (.int .u8 46) h).go .pan fun t7 h=>ifV t7 (.ok (.bool true) h) ((xbin P .eql 5 x0 (.int .u8 95) h).go .pan fun t8 h=>ifV t8 (.ok (.bool true) h) ((xbin P .eql 5 x0 (.int .u8 45) h).go .pan fun t9 h=>.ok t9 h)))) ((xbin P .eql 5 x0 (.int .u8 46) h).go .pan fun t10 h=>ifV t10 (.ok (.bool true) h) ((xbin P .eql 5 x0 (.int .u8 95) h).go .pan fun t11 h=>ifV t11 (.ok (.bool true) h) ((xbin P .eql 5 x0 (.int .u8 45) h).go .pan fun t12 h=>.ok t12 h))))) ((xbin P .geq 5 x0 (.int .u8 48) h).go .pan fun t13 h=>ifV t13 ((xbin P .leq 5 x0 (.int .u8 57) h).go .pan fun t14 h=>ifV t14 (.ok (.bool true) h) ((xbin P .eql 5 x0 (.int .u8 46) h).go .pan fun t15 h=>ifV t15 (.ok (.bool true) h) ((xbin P .eql 5 x0 (.int .u8 95) h).go .pan fun t16 h=>ifV t16 (.ok (.bool true) h) ((xbin P .eql 5 x0 (.int .u8 45) h).go .pan fun t17 h=>.ok t17 h)))) ((xbin P .eql 5 x0 (.int .u8 46) h).go .pan fun t18 h=>ifV t18 (.ok (.bool true) h) ((xbin P .eql 5 x0 (.int .u8 95) h).go .pan fun t19 h=>ifV t19 (.ok (.bool true) h) ((xbin P .eql 5 x0 (.int .u8 45) h).go .pan fun t20 h=>.ok t20 h)))))) ((xbin P .geq 5 x0 (.int .u8 65) h).go .pan fun t21 h=>ifV t21 ((xbin P .leq 5 x0 (.int .u8 90) h).go .pan fun t22 h=>ifV t22 (.ok (.bool true) h) ((xbin P .geq 5 x0 (.int .u8 48) h).go .pan fun t23 h=>ifV t23 ((xbin P .leq 5 x0 (.int .u8 57) h).go .pan fun t24 h=>ifV t24 (.ok (.bool true) h) ((xbin P .eql 5 x0 (.int .u8 46) h).go .pan fun t25 h=>ifV t25 (.ok (.bool true) h) ((xbin P .eql 5 x0 (.int .u8 95) h).go .pan fun t26 h=>ifV t26 (.ok (.bool true) h) ((xbin P .eql 5 x0 (.int .u8 45) h).go .pan fun t27 h=>.ok t27 h)))) ((xbin P .eql 5 x0 (.int .u8 46) h).go .pan fun t28 h=>ifV t28 (.ok (.bool true) h) ((xbin P .eql 5 x0 (.int .u8 95) h).go .pan fun t29 h=>ifV t29 (.ok (.bool true) h) ((xbin P .eql 5 x0 (.int .u8 45) h).go .pan fun t30 h=>.ok t30 h))))) ((xbin P .geq 5 x0 (.int .u8 48) h).go .pan fun t31 h=>ifV t31 ((xbin P .leq 5 x0 (.int .u8 57) h).go .pan fun t32 h=>ifV t32 (.ok (.bool true) h) ((xbin P .eql 5 x0 (.int .u8 46) h).go .pan fun t33 h=>ifV t33 (.ok (.bool true) h) ((xbin P .eql 5 x0 (.int .u8 95) h).go .pan fun t34 h=>ifV t34 (.ok (.bool true) h) ((xbin P .eql 5 x0 (.int .u8 45) h).go .pan fun t35 h=>.ok t35 h)))) ((xbin P .eql 5 x0 (.int .u8 46) h).go .pan fun t36 h=>ifV t36 (.ok (.bool true) h) ((xbin P .eql 5 x0 (.int .u8 95) h).go .pan fun t37 h=>ifV t37 (.ok (.bool true) h) ((xbin P .eql 5 x0 (.int .u8 45) h).go .pan fun t38 h=>.ok t38 h))))):=by kernel_rfl
end
end F137
namespace F138
noncomputable section
variable (P:Program) (cl:Cl) (nu mu:Nu) (x0:Value) (h:H)
theorem eq:runX P cl nu an138 Tryz.f138 [x0] h=(cl (.f 168) [x0] h).go .pan fun t1 h=>(xbin P .geq 3 t1 (.int .i64 0) h).go .pan fun t2 h=>ifV t2 (.ok (.tuple ⟨[(.slice none 0 0),(.int .i64 50),t1]⟩) h) ((cl (.f 169) [x0,(.string ⟨#[47]⟩)] h).go .pan fun t3 h=>.ok (.tuple ⟨[t3,(.int .i64 0),(.int .i64 0)]⟩) h):=by kernel_rfl
end
end F138
namespace F139
noncomputable section
variable (P:Program) (cl:Cl) (nu mu:Nu) (x0:Value) (h:H)
theorem eq:runX P cl nu an139 Tryz.f139 [x0] h=(xbin P .eql 9 x0 (.string ⟨#[105,110]⟩) h).go .pan fun t1 h=>ifV t1 (.ok (.tuple ⟨[(.int .i64 2),(.int .i64 0)]⟩) h) ((xbin P .eql 9 x0 (.string ⟨#[118,97,114]⟩) h).go .pan fun t2 h=>ifV t2 (.ok (.tuple ⟨[(.int .i64 3),(.int .i64 0)]⟩) h) ((xbin P .eql 9 x0 (.string ⟨#[99,97,116]⟩) h).go .pan fun t3 h=>ifV t3 (.ok (.tuple ⟨[(.int .i64 4),(.int .i64 (-1))]⟩) h) ((xbin P .eql 9 x0 (.string ⟨#[117,112,112,101,114]⟩) h).go .pan fun t4 h=>ifV t4 (.ok (.tuple ⟨[(.int .i64 5),(.int .i64 1)]⟩) h) ((xbin P .eql 9 x0 (.string ⟨#[108,111,119,101,114]⟩) h).go .pan fun t5 h=>ifV t5 (.ok (.tuple ⟨[(.int .i64 6),(.int .i64 1)]⟩) h) ((xbin P .eql 9 x0 (.string ⟨#[108,105,110,101,115]⟩) h).go .pan fun t6 h=>ifV t6 (.ok (.tuple ⟨[(.int .i64 7),(.int .i64 1)]⟩) h) ((xbin P .eql 9 x0 (.string ⟨#[115,111,114,116]⟩) h).go .pan fun t7 h=>ifV t7 (.ok (.tuple ⟨[(.int .i64 8),(.int .i64 1)]⟩) h) ((xbin P .eql 9 x0 (.string ⟨#[117,110,105,113]⟩) h).go .pan fun t8 h=>ifV t8 (.ok (.tuple ⟨[(.int .i64 9),(.int .i64 1)]⟩) h) ((xbin P .eql 9 x0 (.string ⟨#[114,101,112,108,97,99,101]⟩) h).go .pan fun t9 h=>ifV t9 (.ok (.tuple ⟨[(.int .i64 10),(.int .i64 3)]⟩) h) ((xbin P .eql 9 x0 (.string ⟨#[99,111,117,110,116]⟩) h).go .pan fun t10 h=>ifV t10 (.ok (.tuple ⟨[(.int .i64 11),(.int .i64 2)]⟩) h) ((xbin P .eql 9 x0 (.string ⟨#[105,102]⟩) h).go .pan fun t11 h=>ifV t11 (.ok (.tuple ⟨[(.int .i64 12),(.int .i64 3)]⟩) h) ((xbin P .eql 9 x0 (.string ⟨#[101,97,99,104]⟩) h).go .pan fun t12 h=>ifV t12 (.ok (.tuple ⟨[(.int .i64 13),(.int .i64 2)]⟩) h) ((xbin P .eql 9 x0 (.string ⟨#[107,101,121]⟩) h).go .pan fun t13 h=>ifV t13 (.ok (.tuple ⟨[(.int .i64 14),(.int .i64 1)]⟩) h) ((xbin P .eql 9 x0 (.string ⟨#[102,97,105,108]⟩) h).go .pan fun t14 h=>ifV t14 (.ok (.tuple ⟨[(.int .i64 15),(.int .i64 1)]⟩) h) (.ok (.tuple ⟨[(.int .i64 0),(.int .i64 0)]⟩) h)))))))))))))):=by kernel_rfl
end
end F139
namespace F141
noncomputable section
variable (P:Program) (cl:Cl) (nu mu:Nu) (x0:Value) (h:H)
theorem eq:runX P cl nu an141 Tryz.f141 [x0] h=(cl (.f 170) [x0,(.int .i64 10)] h).go .pan fun t1 h=>.ok t1 h:=by kernel_rfl
end
end F141
namespace F142
noncomputable section
variable (P:Program) (cl:Cl) (nu mu:Nu) (x0 x1:Value) (h:H)
theorem eq:runX P cl nu an142 Tryz.f142 [x0,x1] h=(xnilCheck x0 h).ok1 fun t1 h=>(xfieldAddr P 114 t1 1 h).ok1 fun t2 h=>(xload P 71 t2 h).ok1 fun t3 h=>(xnilCheck x0 h).ok1 fun t4 h=>(xfieldAddr P 114 t4 1 h).ok1 fun t5 h=>(xload P 71 t5 h).ok1 fun t6 h=>bif (lenV t6).isSome then ((xbuiltin P .len [71] [t6] h).ok1 fun t7 h=>(xbuiltin P .cap [71] [t3] h).go .pan fun t8 h=>bif (rc (xload P 71 t5 h) (some t6)&&true) then (bif plain2 (.int .i64 2) t8 then ((xbin P .mul 3 (.int .i64 2) t8 h).ok1 fun t9 h=>bif plain2 t9 x1 then ((xbin P .add 3 t9 x1 h).ok1 fun t10 h=>(cl (.f 171) [t10] h).go .pan fun t11 h=>bif (rc (xload P 71 t5 h) (some t6)&&true) then ((xslice P 71 t11 none (some t7) none h).ok1 fun t12 h=>(xnilCheck x0 h).go .pan fun t13 h=>(xfieldAddr P 114 t13 1 h).go .pan fun t14 h=>(xload P 71 t14 h).go .pan fun t15 h=>(xbuiltin P .copy [71,71] [t12,t15] h).go .pan fun t16 h=>(xnilCheck x0 h).go .pan fun t17 h=>(xfieldAddr P 114 t17 1 h).go .pan fun t18 h=>(xstore P 71 t18 t12 h).go .pan fun t19 h=>.ok (.tuple ⟨[]⟩) h) else .bad) else .bad) else .bad) else .bad) else .bad:=by kernel_rfl
end
end F142
namespace F168
noncomputable section
variable (P:Program) (cl:Cl) (nu mu:Nu) (x0 x3 x4 x5 x6 x31 x36 x37 x38 x49 x55 x56 x57 x58:Value) (h:H)
noncomputable def s:=sub (bodyOf Tryz.f168)
noncomputable def k0:Ko:=kfn P Tryz.f168.results.toList
def k1:Ko:=kC P cl nu an168 (s [1,0,1,1,1]) (k0 P)
def k2:Ko:=kblk 0 (k1 P cl nu)
def l3:=mu 7 (lC P cl nu an168 [0,3,4,5,6] (s [1,0,1,1,0,1,0,0]) (k2 P cl nu)) [(0,x0),(3,x3),(4,x4),(5,x5),(6,x6)] h
def k3:Ko:=kL P cl nu an168 7 [0,3,4,5,6] (s [1,0,1,1,0,1,0,0]) (k2 P cl nu)
def j9:=mu 18 (evT P cl an168 nu (s [1,0,1,1,0,1,0,0,1]) (k3 P cl nu)) [(0,x0),(3,x3),(4,x4),(5,x5),(6,x6)] h
def k5:Ko:=kC P cl nu an168 (s [1,0,1,1,0,1,0,0,1,1]) (k3 P cl nu)
def k6:Ko:=kblk 1 (k5 P cl nu)
def k7:Ko:=kblk 2 (k6 P cl nu)
def k8:Ko:=kC P cl nu an168 (s [1,0,1,1,0,1,0,0,1,0,0,0,1]) (k7 P cl nu)
def j15:=mu 30 (evT P cl an168 nu (s [1,0,1,1,1]) (k0 P)) [(3,x3)] h
def j10:=mu 20 (evT P cl an168 nu (s [1,0,1,1,0,1,0,0,1,0,0,0,0,1]) (k8 P cl nu)) [(0,x0),(3,x3),(4,x4),(5,x5),(6,x6),(31,x31),(36,x36),(37,x37),(38,x38)] h
def j11:=mu 22 (evT P cl an168 nu (s [1,0,1,1,0,1,0,0,1,0,0,0,1]) (k7 P cl nu)) [(0,x0),(3,x3),(4,x4),(5,x5),(6,x6),(31,x31),(36,x36),(37,x37),(38,x38)] h
def j13:=mu 26 (evT P cl an168 nu (s [1,0,1,1,0,1,0,0,1,0,0,0,1,1,1]) (k7 P cl nu)) [(0,x0),(3,x3),(4,x4),(5,x5),(6,x6),(36,x36),(37,x37),(38,x38),(49,x49),(55,x55),(56,x56),(57,x57),(58,x58)] h
theorem l3n:evT P cl an168 nu (s [1,0,1,1,0,1,0,0]) (kL P cl nu an168 7 [0,3,4,5,6] (s [1,0,1,1,0,1,0,0]) (k2 P cl nu)) [(0,x0),(3,x3),(4,x4),(5,x5),(6,x6)] h=(xbuiltin P .len [9] [x0] h).go .pan fun t1 h=>(xbin P .leq 3 x6 t1 h).go .pan fun t2 h=>ifV t2 (j9 P cl nu nu x0 x3 x4 x5 x6 h) (j15 P cl nu nu x3 h):=by kernel_rfl
def l3_eq:=@id (l3 P cl nu0 nu0 x0 x3 x4 x5 x6 h=_) (lpN (l3n P cl nu0 x0 x3 x4 x5 x6 h))
theorem j9_eq:j9 P cl nu nu0 x0 x3 x4 x5 x6 h=(xbin P .eql 3 x6 x4 h).go .pan fun t3 h=>ifV t3 ((cl (.f 179) [x0,x6] h).go .pan fun t4 h=>(j10 P cl nu nu x0 x3 x4 x5 x6 t4 x0 x6 t4 h)) (j10 P cl nu nu x0 x3 x4 x5 x6 (.bool false) (.tuple #[]) (.tuple #[]) (.tuple #[]) h):=by kernel_rfl
theorem j15_eq:j15 P cl nu nu0 x3 h = .ok x3 h:=by kernel_rfl
theorem j10_eq:j10 P cl nu nu0 x0 x3 x4 x5 x6 x31 x36 x37 x38 h=ifV x31 (j11 P cl nu nu x0 x3 x4 x5 x6 x31 x36 x37 x38 h) ((xbin P .eql 3 x6 (.int .i64 255) h).go .pan fun t5 h=>ifV t5 ((xbuiltin P .len [9] [x0] h).go .pan fun t6 h=>(xbin P .lss 3 x6 t6 h).go .pan fun t7 h=>(j11 P cl nu nu x0 x3 x4 x5 x6 t7 x36 x37 x38 h)) (j11 P cl nu nu x0 x3 x4 x5 x6 (.bool false) x36 x37 x38 h)):=by kernel_rfl
theorem j11_eq:j11 P cl nu nu0 x0 x3 x4 x5 x6 x31 x36 x37 x38 h=ifV x31 (j15 P cl nu nu x6 h) ((xbuiltin P .len [9] [x0] h).go .pan fun t8 h=>(xbin P .lss 3 x6 t8 h).go .pan fun t9 h=>ifV t9 ((xindex P 9 x0 x6 h).go .pan fun t10 h=>(xbin P .neq 5 t10 (.int .u8 47) h).go .pan fun t11 h=>(j13 P cl nu nu x0 x3 x4 x5 x6 x36 x37 x38 t11 x0 x6 t10 t11 h)) (j13 P cl nu nu x0 x3 x4 x5 x6 x36 x37 x38 (.bool false) (.tuple #[]) (.tuple #[]) (.tuple #[]) (.tuple #[]) h)):=by kernel_rfl
theorem j13_eq:j13 P cl nu nu0 x0 x3 x4 x5 x6 x36 x37 x38 x49 x55 x56 x57 x58 h=ifV x49 ((xindex P 9 x0 x6 h).go .pan fun t12 h=>(cl (.f 137) [t12] h).go .pan fun t13 h=>(xun P .not t13 h).go .pan fun t14 h=>ifV t14 (j15 P cl nu nu x6 h) ((xbin P .sub 3 x6 x4 h).go .pan fun t15 h=>(xbin P .eql 3 t15 (.int .i64 64) h).go .pan fun t16 h=>ifV t16 (j15 P cl nu nu x6 h) ((xbin P .add 3 x6 (.int .i64 1) h).go .pan fun t17 h=>(l3 P cl nu nu x0 x3 x4 x5 t17 h)))) ((xbin P .add 3 x5 (.int .i64 1) h).go .pan fun t18 h=>(xbin P .eql 3 x6 x4 h).go .pan fun t19 h=>ifV t19 (j15 P cl nu nu x6 h) ((xbin P .eql 3 t18 (.int .i64 16) h).go .pan fun t20 h=>ifV t20 ((xbuiltin P .len [9] [x0] h).go .pan fun t21 h=>(xbin P .lss 3 x6 t21 h).go .pan fun t22 h=>ifV t22 (j15 P cl nu nu x6 h) ((xbin P .add 3 x6 (.int .i64 1) h).go .pan fun t23 h=>(xbin P .add 3 x6 (.int .i64 1) h).go .pan fun t24 h=>(l3 P cl nu nu x0 x3 t23 t18 t24 h))) ((xbin P .add 3 x6 (.int .i64 1) h).go .pan fun t25 h=>(xbin P .add 3 x6 (.int .i64 1) h).go .pan fun t26 h=>(l3 P cl nu nu x0 x3 t25 t18 t26 h)))):=by kernel_rfl
theorem eq:runX P cl nu an168 Tryz.f168 [x0] h=l3 P cl nu nu x0 (.int .i64 (-1)) (.int .i64 0) (.int .i64 0) (.int .i64 0) h:=by kernel_rfl
end
end F168
namespace F169
noncomputable section
variable (P:Program) (cl:Cl) (nu mu:Nu) (x0 x1:Value) (h:H)
theorem eq:runX P cl nu an169 Tryz.f169 [x0,x1] h=(cl (.f 180) [x0,x1,(.int .i64 0),(.int .i64 (-1))] h).go .pan fun t1 h=>.ok t1 h:=by kernel_rfl
end
end F169
namespace F170
noncomputable section
variable (P:Program) (cl:Cl) (nu mu:Nu) (x0 x1 x5 x6 x7:Value) (h:H)
noncomputable def s:=sub (bodyOf Tryz.f170)
noncomputable def k0:Ko:=kfn P Tryz.f170.results.toList
def k1:Ko:=kC P cl nu an170 (s [1,1]) (k0 P)
def j4:=mu 8 (evT P cl an170 nu (s [1,0,1,0,1]) (k1 P cl nu)) [(0,x0)] h
def j14:=mu 28 (evT P cl an170 nu (s [1,1]) (k0 P)) [(0,x0),(1,x1)] h
def j8:=mu 16 (evT P cl an170 nu (s [1,0,1,0,1,1,1,1]) (k1 P cl nu)) [(0,x0),(5,x5),(6,x6)] h
def j13:=mu 26 (evT P cl an170 nu (s [1,0,1,0,1,1,1,1,1,1,1]) (k1 P cl nu)) [(5,x5),(7,x7)] h
theorem j4_eq:j4 P cl nu nu0 x0 h=(xalloc P 212 h).go .pan fun t5 h=>(xconvert P 2 154 x0 h).go .pan fun t6 h=>(xbin P .lss 2 x0 (.int .i64 0) h).go .pan fun t7 h=>ifV t7 ((xun P .neg t6 h).go .pan fun t8 h=>(j8 P cl nu nu x0 t5 t8 h)) (j8 P cl nu nu x0 t5 t6 h):=by kernel_rfl
theorem j8_eq:j8 P cl nu nu0 x0 x5 x6 h=(cl (.f 182) [x6] h).go .pan fun t14 h=>(xbin P .add 3 (.int .i64 1) t14 h).go .pan fun t15 h=>(xslice P 212 x5 (some (.int .i64 1)) (some t15) none h).go .pan fun t16 h=>(cl (.f 183) [t16,x6] h).go .pan fun t17 h=>(xbin P .lss 2 x0 (.int .i64 0) h).go .pan fun t18 h=>ifV t18 ((xindexAddr P 212 x5 (.int .i64 0) h).go .pan fun t19 h=>(xstore P 5 t19 (.int .u8 45) h).go .pan fun t20 h=>(xbin P .add 3 (.int .i64 1) t14 h).go .pan fun t21 h=>(xslice P 212 x5 none (some t21) none h).go .pan fun t22 h=>(xconvert P 71 9 t22 h).go .pan fun t23 h=>.ok t23 h) (j13 P cl nu nu x5 t14 h):=by kernel_rfl
theorem j13_eq:j13 P cl nu nu0 x5 x7 h=(xbin P .add 3 (.int .i64 1) x7 h).go .pan fun t24 h=>(xslice P 212 x5 (some (.int .i64 1)) (some t24) none h).go .pan fun t25 h=>(xconvert P 71 9 t25 h).go .pan fun t26 h=>.ok t26 h:=by kernel_rfl
theorem eq:runX P cl nu an170 Tryz.f170 [x0,x1] h=(xbin P .eql 3 x1 (.int .i64 10) h).go .pan fun t1 h=>ifV t1 ((xbin P .leq 2 (.int .i64 0) x0 h).go .pan fun t2 h=>ifV t2 ((xbin P .lss 2 x0 (.int .i64 100) h).go .pan fun t3 h=>ifV t3 ((cl (.f 181) [x0] h).go .pan fun t4 h=>.ok t4 h) (j4 P cl nu nu x0 h)) (j4 P cl nu nu x0 h)) (j14 P cl nu nu x0 x1 h):=by kernel_rfl
end
end F170
namespace F172
noncomputable section
variable (P:Program) (cl:Cl) (nu mu:Nu) (x0 x1 x5 x6 x7 x8 x9 x10 x16 x85 x86 x87 x88 x89 x90 x91 x92 x103 x104 x105 x106 x107 x122 x123 x124 x125 x126 x129 x130 x131 x132:Value) (h:H)
noncomputable def s:=sub (bodyOf Tryz.f172)
noncomputable def k0:Ko:=kfn P Tryz.f172.results.toList
def k1:Ko:=kC P cl nu an172 (s [1,1,1]) (k0 P)
def k2:Ko:=kblk 0 (k1 P cl nu)
def j3:=mu 6 (evT P cl an172 nu (s [1,1,0,0,1]) (k2 P cl nu)) [(0,x0),(1,x1),(5,x5),(16,x16)] h
def j10:=mu 20 (evT P cl an172 nu (s [1,1,1]) (k0 P)) [(0,x0),(1,x1),(5,x5)] h
theorem j3_eq:j3 P cl nu nu0 x0 x1 x5 x16 h=ifV x16 (.ok (.int .i64 0) h) ((xbin P .eql 3 x5 (.int .i64 1) h).go .pan fun t4 h=>ifV t4 ((xindex P 9 x1 (.int .i64 0) h).go .pan fun t5 h=>(cl (.f 185) [x0,t5] h).go .pan fun t6 h=>.ok t6 h) ((xbuiltin P .len [9] [x0] h).go .pan fun t7 h=>(xbin P .geq 3 x5 t7 h).go .pan fun t8 h=>ifV t8 (.ok (.int .i64 (-1)) h) ((xload P 3 (.pointer (some ⟨1,0,none⟩)) h).go .pan fun t9 h=>(xbin P .leq 3 x5 t9 h).go .pan fun t10 h=>ifV t10 ((xbuiltin P .len [9] [x0] h).go .pan fun t11 h=>(xbin P .leq 3 t11 (.int .i64 64) h).go .pan fun t12 h=>ifV t12 ((cl (.f 186) [x0,x1] h).go .pan fun t13 h=>.ok t13 h) (j10 P cl nu nu x0 x1 x5 h)) (j10 P cl nu nu x0 x1 x5 h)))):=by kernel_rfl
theorem eq:runX P cl nu an172 Tryz.f172 [x0,x1] h=(xbuiltin P .len [9] [x1] h).go .pan fun t1 h=>(xbin P .eql 3 t1 (.int .i64 0) h).go .pan fun t2 h=>ifV t2 (j3 P cl nu nu x0 x1 t1 (.bool true) h) ((xbin P .eql 9 x1 x0 h).go .pan fun t3 h=>(j3 P cl nu nu x0 x1 t1 t3 h)):=by kernel_rfl
end
end F172
namespace F179
noncomputable section
variable (P:Program) (cl:Cl) (nu mu:Nu) (x0 x1 x5:Value) (h:H)
noncomputable def s:=sub (bodyOf Tryz.f179)
noncomputable def k0:Ko:=kfn P Tryz.f179.results.toList
def k1:Ko:=kC P cl nu an179 (s [1,1,1]) (k0 P)
def k2:Ko:=kblk 0 (k1 P cl nu)
def l2:=mu 5 (lC P cl nu an179 [0,1,5] (s [1,1,0,0,0]) (k2 P cl nu)) [(0,x0),(1,x1),(5,x5)] h
def j4:=mu 8 (evT P cl an179 nu (s [1,1,1]) (k0 P)) [(0,x0),(1,x1),(5,x5)] h
theorem l2n:evT P cl an179 nu (s [1,1,0,0,0]) (kL P cl nu an179 5 [0,1,5] (s [1,1,0,0,0]) (k2 P cl nu)) [(0,x0),(1,x1),(5,x5)] h=(xbin P .add 3 x1 x5 h).go .pan fun t1 h=>(xbuiltin P .len [9] [x0] h).go .pan fun t2 h=>(xbin P .lss 3 t1 t2 h).go .pan fun t3 h=>ifV t3 ((xbin P .add 3 x1 x5 h).go .pan fun t4 h=>(xindex P 9 x0 t4 h).go .pan fun t5 h=>(xbin P .eql 5 t5 (.int .u8 46) h).go .pan fun t6 h=>ifV t6 ((xbin P .lss 3 x5 (.int .i64 3) h).go .pan fun t7 h=>ifV t7 ((xbin P .add 3 x5 (.int .i64 1) h).go .pan fun t8 h=>(l2 P cl nu nu x0 x1 t8 h)) (j4 P cl nu nu x0 x1 x5 h)) (j4 P cl nu nu x0 x1 x5 h)) (j4 P cl nu nu x0 x1 x5 h):=by kernel_rfl
def l2_eq:=@id (l2 P cl nu0 nu0 x0 x1 x5 h=_) (lpN (l2n P cl nu0 x0 x1 x5 h))
theorem j4_eq:j4 P cl nu nu0 x0 x1 x5 h=(xbin P .eql 3 x5 (.int .i64 1) h).go .pan fun t9 h=>ifV t9 ((xbin P .add 3 x1 x5 h).go .pan fun t10 h=>(xbuiltin P .len [9] [x0] h).go .pan fun t11 h=>(xbin P .eql 3 t10 t11 h).go .pan fun t12 h=>ifV t12 (.ok (.bool true) h) ((xbin P .add 3 x1 x5 h).go .pan fun t13 h=>(xindex P 9 x0 t13 h).go .pan fun t14 h=>(xbin P .eql 5 t14 (.int .u8 47) h).go .pan fun t15 h=>.ok t15 h)) ((xbin P .eql 3 x5 (.int .i64 2) h).go .pan fun t16 h=>ifV t16 ((xbin P .add 3 x1 x5 h).go .pan fun t17 h=>(xbuiltin P .len [9] [x0] h).go .pan fun t18 h=>(xbin P .eql 3 t17 t18 h).go .pan fun t19 h=>ifV t19 (.ok (.bool true) h) ((xbin P .add 3 x1 x5 h).go .pan fun t20 h=>(xindex P 9 x0 t20 h).go .pan fun t21 h=>(xbin P .eql 5 t21 (.int .u8 47) h).go .pan fun t22 h=>.ok t22 h)) (.ok (.bool false) h)):=by kernel_rfl
theorem eq:runX P cl nu an179 Tryz.f179 [x0,x1] h=l2 P cl nu nu x0 x1 (.int .i64 0) h:=by kernel_rfl
end
end F179
namespace F180
noncomputable section
variable (P:Program) (cl:Cl) (nu mu:Nu) (x0 x1 x2 x3 x9 x10 x11:Value) (h:H)
noncomputable def s:=sub (bodyOf Tryz.f180)
noncomputable def k0:Ko:=kfn P Tryz.f180.results.toList
def j3:=mu 6 (evT P cl an180 nu (s [1,1]) (k0 P)) [(0,x0),(1,x1),(2,x2),(3,x3)] h
def j5:=mu 10 (evT P cl an180 nu (s [1,1,1]) (k0 P)) [(0,x0),(1,x1),(2,x2),(3,x3)] h
def j7:=mu 14 (evT P cl an180 nu (s [1,1,1,1]) (k0 P)) [(0,x0),(1,x1),(2,x2),(3,x3)] h
def k4:Ko:=kC P cl nu an180 (s [1,1,1,1,1,1,1,1,1]) (k0 P)
def k5:Ko:=kblk 0 (k4 P cl nu)
def l11:=mu 23 (lC P cl nu an180 [0,1,2,3,9,10] (s [1,1,1,1,1,1,1,1,0,0,0]) (k5 P cl nu)) [(0,x0),(1,x1),(2,x2),(3,x3),(9,x9),(10,x10)] h
def k6:Ko:=kL P cl nu an180 23 [0,1,2,3,9,10] (s [1,1,1,1,1,1,1,1,0,0,0]) (k5 P cl nu)
def j12:=mu 24 (evT P cl an180 nu (s [1,1,1,1,1,1,1,1,0,0,0,1]) (k6 P cl nu)) [(0,x0),(1,x1),(2,x2),(3,x3),(9,x9),(10,x10)] h
def k8:Ko:=kblk 1 (k6 P cl nu)
def j17:=mu 34 (evT P cl an180 nu (s [1,1,1,1,1,1,1,1,1]) (k0 P)) [(0,x0),(9,x9),(10,x10)] h
def j14:=mu 28 (evT P cl an180 nu (s [1,1,1,1,1,1,1,1,0,0,0,1,0,1,1]) (k8 P cl nu)) [(0,x0),(1,x1),(2,x2),(3,x3),(9,x9),(10,x10),(11,x11)] h
theorem j3_eq:j3 P cl nu nu0 x0 x1 x2 x3 h=(xbin P .eql 9 x1 (.string ⟨#[]⟩) h).go .pan fun t2 h=>ifV t2 ((cl (.f 191) [x0,x3] h).go .pan fun t3 h=>.ok t3 h) (j5 P cl nu nu x0 x1 x2 x3 h):=by kernel_rfl
theorem j5_eq:j5 P cl nu nu0 x0 x1 x2 x3 h=(xbin P .lss 3 x3 (.int .i64 0) h).go .pan fun t4 h=>ifV t4 ((cl (.f 192) [x0,x1] h).go .pan fun t5 h=>(xbin P .add 3 t5 (.int .i64 1) h).go .pan fun t6 h=>(j7 P cl nu nu x0 x1 x2 t6 h)) (j7 P cl nu nu x0 x1 x2 x3 h):=by kernel_rfl
theorem j7_eq:j7 P cl nu nu0 x0 x1 x2 x3 h=(xbuiltin P .len [9] [x0] h).go .pan fun t7 h=>(xbin P .add 3 t7 (.int .i64 1) h).go .pan fun t8 h=>(xbuiltin P .min [3,3] [x3,t8] h).go .pan fun t9 h=>(xmakeSlice P 22 t9 t9 h).go .pan fun t10 h=>(xbin P .sub 3 t9 (.int .i64 1) h).go .pan fun t11 h=>(l11 P cl nu nu x0 x1 x2 t11 t10 (.int .i64 0) h):=by kernel_rfl
theorem l11n:evT P cl an180 nu (s [1,1,1,1,1,1,1,1,0,0,0]) (kL P cl nu an180 23 [0,1,2,3,9,10] (s [1,1,1,1,1,1,1,1,0,0,0]) (k5 P cl nu)) [(0,x0),(1,x1),(2,x2),(3,x3),(9,x9),(10,x10)] h=(xbin P .lss 3 x10 x3 h).go .pan fun t12 h=>ifV t12 (j12 P cl nu nu x0 x1 x2 x3 x9 x10 h) (j17 P cl nu nu x0 x9 x10 h):=by kernel_rfl
def l11_eq:=@id (l11 P cl nu0 nu0 x0 x1 x2 x3 x9 x10 h=_) (lpN (l11n P cl nu0 x0 x1 x2 x3 x9 x10 h))
theorem j12_eq:j12 P cl nu nu0 x0 x1 x2 x3 x9 x10 h=(cl (.f 193) [x0,x1] h).go .pan fun t13 h=>(xbin P .lss 3 t13 (.int .i64 0) h).go .pan fun t14 h=>ifV t14 (j17 P cl nu nu x0 x9 x10 h) (j14 P cl nu nu x0 x1 x2 x3 x9 x10 t13 h):=by kernel_rfl
theorem j17_eq:j17 P cl nu nu0 x0 x9 x10 h=(xindexAddr P 22 x9 x10 h).go .pan fun t15 h=>(xstore P 9 t15 x0 h).go .pan fun t16 h=>(xbin P .add 3 x10 (.int .i64 1) h).go .pan fun t17 h=>(xslice P 22 x9 none (some t17) none h).go .pan fun t18 h=>.ok t18 h:=by kernel_rfl
theorem j14_eq:j14 P cl nu nu0 x0 x1 x2 x3 x9 x10 x11 h=(xbin P .add 3 x11 x2 h).go .pan fun t19 h=>(xslice P 9 x0 none (some t19) none h).go .pan fun t20 h=>(xindexAddr P 22 x9 x10 h).go .pan fun t21 h=>(xstore P 9 t21 t20 h).go .pan fun t22 h=>(xbuiltin P .len [9] [x1] h).go .pan fun t23 h=>(xbin P .add 3 x11 t23 h).go .pan fun t24 h=>(xslice P 9 x0 (some t24) none none h).go .pan fun t25 h=>(xbin P .add 3 x10 (.int .i64 1) h).go .pan fun t26 h=>(l11 P cl nu nu t25 x1 x2 x3 x9 t26 h):=by kernel_rfl
theorem eq:runX P cl nu an180 Tryz.f180 [x0,x1,x2,x3] h=(xbin P .eql 3 x3 (.int .i64 0) h).go .pan fun t1 h=>ifV t1 (.ok (.slice none 0 0) h) (j3 P cl nu nu x0 x1 x2 x3 h):=by kernel_rfl
end
end F180
namespace F181
noncomputable section
variable (P:Program) (cl:Cl) (nu mu:Nu) (x0:Value) (h:H)
noncomputable def s:=sub (bodyOf Tryz.f181)
noncomputable def k0:Ko:=kfn P Tryz.f181.results.toList
def j3:=mu 6 (evT P cl an181 nu (s [1,1]) (k0 P)) [(0,x0)] h
theorem j3_eq:j3 P cl nu nu0 x0 h=(xbin P .mul 3 x0 (.int .i64 2) h).go .pan fun t4 h=>(xbin P .mul 3 x0 (.int .i64 2) h).go .pan fun t5 h=>(xbin P .add 3 t5 (.int .i64 2) h).go .pan fun t6 h=>(xslice P 9 (.string ⟨#[48,48,48,49,48,50,48,51,48,52,48,53,48,54,48,55,48,56,48,57,49,48,49,49,49,50,49,51,49,52,49,53,49,54,49,55,49,56,49,57,50,48,50,49,50,50,50,51,50,52,50,53,50,54,50,55,50,56,50,57,51,48,51,49,51,50,51,51,51,52,51,53,51,54,51,55,51,56,51,57,52,48,52,49,52,50,52,51,52,52,52,53,52,54,52,55,52,56,52,57,53,48,53,49,53,50,53,51,53,52,53,53,53,54,53,55,53,56,53,57,54,48,54,49,54,50,54,51,54,52,54,53,54,54,54,55,54,56,54,57,55,48,55,49,55,50,55,51,55,52,55,53,55,54,55,55,55,56,55,57,56,48,56,49,56,50,56,51,56,52,56,53,56,54,56,55,56,56,56,57,57,48,57,49,57,50,57,51,57,52,57,53,57,54,57,55,57,56,57,57]⟩) (some t4) (some t6) none h).go .pan fun t7 h=>.ok t7 h:=by kernel_rfl
theorem eq:runX P cl nu an181 Tryz.f181 [x0] h=(xbin P .lss 3 x0 (.int .i64 10) h).go .pan fun t1 h=>ifV t1 ((xbin P .add 3 x0 (.int .i64 1) h).go .pan fun t2 h=>(xslice P 9 (.string ⟨#[48,49,50,51,52,53,54,55,56,57,97,98,99,100,101,102,103,104,105,106,107,108,109,110,111,112,113,114,115,116,117,118,119,120,121,122]⟩) (some x0) (some t2) none h).go .pan fun t3 h=>.ok t3 h) (j3 P cl nu nu x0 h):=by kernel_rfl
end
end F181
namespace F182
noncomputable section
variable (P:Program) (cl:Cl) (nu mu:Nu) (x0:Value) (h:H)
theorem eq:runX P cl nu an182 Tryz.f182 [x0] h=(cl (.f 195) [x0] h).go .pan fun t1 h=>(cl (.f 194) [t1] h).go .pan fun t2 h=>(xindexAddr P 221 (.pointer (some ⟨2,0,none⟩)) t2 h).go .pan fun t3 h=>(xload P 154 t3 h).go .pan fun t4 h=>(xbin P .geq 154 x0 t4 h).go .pan fun t5 h=>(cl (.f 196) [t5] h).go .pan fun t6 h=>(xbin P .add 3 t2 t6 h).go .pan fun t7 h=>.ok t7 h:=by kernel_rfl
end
end F182
namespace F183
noncomputable section
variable (P:Program) (cl:Cl) (nu mu:Nu) (x0 x1 x4 x12:Value) (h:H)
noncomputable def s:=sub (bodyOf Tryz.f183)
noncomputable def k0:Ko:=kfn P Tryz.f183.results.toList
def k1:Ko:=kC P cl nu an183 (s [1,1]) (k0 P)
def k2:Ko:=kblk 0 (k1 P cl nu)
def l1:=mu 3 (lC P cl nu an183 [0,1,4] (s [1,0,0,0]) (k2 P cl nu)) [(0,x0),(1,x1),(4,x4)] h
def k3:Ko:=kL P cl nu an183 3 [0,1,4] (s [1,0,0,0]) (k2 P cl nu)
def j2:=mu 4 (evT P cl an183 nu (s [1,0,0,0,1]) (k3 P cl nu)) [(0,x0),(1,x1),(4,x4)] h
def j12:=mu 24 (evT P cl an183 nu (s [1,1]) (k0 P)) [(0,x0),(1,x1),(4,x4)] h
def j20:=mu 40 (evT P cl an183 nu (s [1,1,1,1]) (k0 P)) [(0,x0),(4,x4),(12,x12)] h
def j25:=mu 50 (evT P cl an183 nu (s [1,1,1,1,1]) (k0 P)) [(0,x0),(4,x4),(12,x12)] h
theorem l1n:evT P cl an183 nu (s [1,0,0,0]) (kL P cl nu an183 3 [0,1,4] (s [1,0,0,0]) (k2 P cl nu)) [(0,x0),(1,x1),(4,x4)] h=(xbin P .geq 3 x4 (.int .i64 8) h).go .pan fun t2 h=>ifV t2 (j2 P cl nu nu x0 x1 x4 h) (j12 P cl nu nu x0 x1 x4 h):=by kernel_rfl
def l1_eq:=@id (l1 P cl nu0 nu0 x0 x1 x4 h=_) (lpN (l1n P cl nu0 x0 x1 x4 h))
theorem j2_eq:j2 P cl nu nu0 x0 x1 x4 h=(xbin P .rem 154 x1 (.int .u64 100000000) h).go .pan fun t3 h=>(xconvert P 154 145 t3 h).go .pan fun t4 h=>(xbin P .quo 154 x1 (.int .u64 100000000) h).go .pan fun t5 h=>(xbin P .quo 145 t4 (.int .u32 10000) h).go .pan fun t6 h=>(xbin P .rem 145 t4 (.int .u32 10000) h).go .pan fun t7 h=>(xbin P .quo 145 t7 (.int .u32 100) h).go .pan fun t8 h=>(xbin P .mul 145 t8 (.int .u32 2) h).go .pan fun t9 h=>(xbin P .rem 145 t7 (.int .u32 100) h).go .pan fun t10 h=>(xbin P .mul 145 t10 (.int .u32 2) h).go .pan fun t11 h=>(xbin P .quo 145 t6 (.int .u32 100) h).go .pan fun t12 h=>(xbin P .mul 145 t12 (.int .u32 2) h).go .pan fun t13 h=>(xbin P .rem 145 t6 (.int .u32 100) h).go .pan fun t14 h=>(xbin P .mul 145 t14 (.int .u32 2) h).go .pan fun t15 h=>bif plain2 x4 (.int .i64 1) then ((xbin P .sub 3 x4 (.int .i64 1) h).ok1 fun t16 h=>bif plain2 x4 (.int .i64 2) then ((xbin P .sub 3 x4 (.int .i64 2) h).ok1 fun t17 h=>bif plain2 t11 (.int .u32 1) then ((xbin P .add 145 t11 (.int .u32 1) h).ok1 fun t18 h=>(xindex P 9 (.string ⟨#[48,48,48,49,48,50,48,51,48,52,48,53,48,54,48,55,48,56,48,57,49,48,49,49,49,50,49,51,49,52,49,53,49,54,49,55,49,56,49,57,50,48,50,49,50,50,50,51,50,52,50,53,50,54,50,55,50,56,50,57,51,48,51,49,51,50,51,51,51,52,51,53,51,54,51,55,51,56,51,57,52,48,52,49,52,50,52,51,52,52,52,53,52,54,52,55,52,56,52,57,53,48,53,49,53,50,53,51,53,52,53,53,53,54,53,55,53,56,53,57,54,48,54,49,54,50,54,51,54,52,54,53,54,54,54,55,54,56,54,57,55,48,55,49,55,50,55,51,55,52,55,53,55,54,55,55,55,56,55,57,56,48,56,49,56,50,56,51,56,52,56,53,56,54,56,55,56,56,56,57,57,48,57,49,57,50,57,51,57,52,57,53,57,54,57,55,57,56,57,57]⟩) t18 h).ok1 fun t19 h=>(xindex P 9 (.string ⟨#[48,48,48,49,48,50,48,51,48,52,48,53,48,54,48,55,48,56,48,57,49,48,49,49,49,50,49,51,49,52,49,53,49,54,49,55,49,56,49,57,50,48,50,49,50,50,50,51,50,52,50,53,50,54,50,55,50,56,50,57,51,48,51,49,51,50,51,51,51,52,51,53,51,54,51,55,51,56,51,57,52,48,52,49,52,50,52,51,52,52,52,53,52,54,52,55,52,56,52,57,53,48,53,49,53,50,53,51,53,52,53,53,53,54,53,55,53,56,53,57,54,48,54,49,54,50,54,51,54,52,54,53,54,54,54,55,54,56,54,57,55,48,55,49,55,50,55,51,55,52,55,53,55,54,55,55,55,56,55,57,56,48,56,49,56,50,56,51,56,52,56,53,56,54,56,55,56,56,56,57,57,48,57,49,57,50,57,51,57,52,57,53,57,54,57,55,57,56,57,57]⟩) t11 h).ok1 fun t20 h=>(xindexAddr P 71 x0 t16 h).ok1 fun t21 h=>(xstore P 5 t21 t19 h).go .pan fun t22 h=>(xindexAddr P 71 x0 t17 h).ok1 fun t23 h=>(xstore P 5 t23 t20 h).go .pan fun t24 h=>bif plain2 x4 (.int .i64 3) then ((xbin P .sub 3 x4 (.int .i64 3) h).ok1 fun t25 h=>bif plain2 x4 (.int .i64 4) then ((xbin P .sub 3 x4 (.int .i64 4) h).ok1 fun t26 h=>bif plain2 t9 (.int .u32 1) then ((xbin P .add 145 t9 (.int .u32 1) h).ok1 fun t27 h=>(xindex P 9 (.string ⟨#[48,48,48,49,48,50,48,51,48,52,48,53,48,54,48,55,48,56,48,57,49,48,49,49,49,50,49,51,49,52,49,53,49,54,49,55,49,56,49,57,50,48,50,49,50,50,50,51,50,52,50,53,50,54,50,55,50,56,50,57,51,48,51,49,51,50,51,51,51,52,51,53,51,54,51,55,51,56,51,57,52,48,52,49,52,50,52,51,52,52,52,53,52,54,52,55,52,56,52,57,53,48,53,49,53,50,53,51,53,52,53,53,53,54,53,55,53,56,53,57,54,48,54,49,54,50,54,51,54,52,54,53,54,54,54,55,54,56,54,57,55,48,55,49,55,50,55,51,55,52,55,53,55,54,55,55,55,56,55,57,56,48,56,49,56,50,56,51,56,52,56,53,56,54,56,55,56,56,56,57,57,48,57,49,57,50,57,51,57,52,57,53,57,54,57,55,57,56,57,57]⟩) t27 h).ok1 fun t28 h=>(xindex P 9 (.string ⟨#[48,48,48,49,48,50,48,51,48,52,48,53,48,54,48,55,48,56,48,57,49,48,49,49,49,50,49,51,49,52,49,53,49,54,49,55,49,56,49,57,50,48,50,49,50,50,50,51,50,52,50,53,50,54,50,55,50,56,50,57,51,48,51,49,51,50,51,51,51,52,51,53,51,54,51,55,51,56,51,57,52,48,52,49,52,50,52,51,52,52,52,53,52,54,52,55,52,56,52,57,53,48,53,49,53,50,53,51,53,52,53,53,53,54,53,55,53,56,53,57,54,48,54,49,54,50,54,51,54,52,54,53,54,54,54,55,54,56,54,57,55,48,55,49,55,50,55,51,55,52,55,53,55,54,55,55,55,56,55,57,56,48,56,49,56,50,56,51,56,52,56,53,56,54,56,55,56,56,56,57,57,48,57,49,57,50,57,51,57,52,57,53,57,54,57,55,57,56,57,57]⟩) t9 h).ok1 fun t29 h=>(xindexAddr P 71 x0 t25 h).ok1 fun t30 h=>(xstore P 5 t30 t28 h).go .pan fun t31 h=>(xindexAddr P 71 x0 t26 h).ok1 fun t32 h=>(xstore P 5 t32 t29 h).go .pan fun t33 h=>bif plain2 x4 (.int .i64 5) then ((xbin P .sub 3 x4 (.int .i64 5) h).ok1 fun t34 h=>bif plain2 x4 (.int .i64 6) then ((xbin P .sub 3 x4 (.int .i64 6) h).ok1 fun t35 h=>bif plain2 t15 (.int .u32 1) then ((xbin P .add 145 t15 (.int .u32 1) h).ok1 fun t36 h=>(xindex P 9 (.string ⟨#[48,48,48,49,48,50,48,51,48,52,48,53,48,54,48,55,48,56,48,57,49,48,49,49,49,50,49,51,49,52,49,53,49,54,49,55,49,56,49,57,50,48,50,49,50,50,50,51,50,52,50,53,50,54,50,55,50,56,50,57,51,48,51,49,51,50,51,51,51,52,51,53,51,54,51,55,51,56,51,57,52,48,52,49,52,50,52,51,52,52,52,53,52,54,52,55,52,56,52,57,53,48,53,49,53,50,53,51,53,52,53,53,53,54,53,55,53,56,53,57,54,48,54,49,54,50,54,51,54,52,54,53,54,54,54,55,54,56,54,57,55,48,55,49,55,50,55,51,55,52,55,53,55,54,55,55,55,56,55,57,56,48,56,49,56,50,56,51,56,52,56,53,56,54,56,55,56,56,56,57,57,48,57,49,57,50,57,51,57,52,57,53,57,54,57,55,57,56,57,57]⟩) t36 h).ok1 fun t37 h=>(xindex P 9 (.string ⟨#[48,48,48,49,48,50,48,51,48,52,48,53,48,54,48,55,48,56,48,57,49,48,49,49,49,50,49,51,49,52,49,53,49,54,49,55,49,56,49,57,50,48,50,49,50,50,50,51,50,52,50,53,50,54,50,55,50,56,50,57,51,48,51,49,51,50,51,51,51,52,51,53,51,54,51,55,51,56,51,57,52,48,52,49,52,50,52,51,52,52,52,53,52,54,52,55,52,56,52,57,53,48,53,49,53,50,53,51,53,52,53,53,53,54,53,55,53,56,53,57,54,48,54,49,54,50,54,51,54,52,54,53,54,54,54,55,54,56,54,57,55,48,55,49,55,50,55,51,55,52,55,53,55,54,55,55,55,56,55,57,56,48,56,49,56,50,56,51,56,52,56,53,56,54,56,55,56,56,56,57,57,48,57,49,57,50,57,51,57,52,57,53,57,54,57,55,57,56,57,57]⟩) t15 h).ok1 fun t38 h=>(xindexAddr P 71 x0 t34 h).ok1 fun t39 h=>(xstore P 5 t39 t37 h).go .pan fun t40 h=>(xindexAddr P 71 x0 t35 h).ok1 fun t41 h=>(xstore P 5 t41 t38 h).go .pan fun t42 h=>bif plain2 x4 (.int .i64 7) then ((xbin P .sub 3 x4 (.int .i64 7) h).ok1 fun t43 h=>bif plain2 x4 (.int .i64 8) then ((xbin P .sub 3 x4 (.int .i64 8) h).ok1 fun t44 h=>bif plain2 t13 (.int .u32 1) then ((xbin P .add 145 t13 (.int .u32 1) h).ok1 fun t45 h=>(xindex P 9 (.string ⟨#[48,48,48,49,48,50,48,51,48,52,48,53,48,54,48,55,48,56,48,57,49,48,49,49,49,50,49,51,49,52,49,53,49,54,49,55,49,56,49,57,50,48,50,49,50,50,50,51,50,52,50,53,50,54,50,55,50,56,50,57,51,48,51,49,51,50,51,51,51,52,51,53,51,54,51,55,51,56,51,57,52,48,52,49,52,50,52,51,52,52,52,53,52,54,52,55,52,56,52,57,53,48,53,49,53,50,53,51,53,52,53,53,53,54,53,55,53,56,53,57,54,48,54,49,54,50,54,51,54,52,54,53,54,54,54,55,54,56,54,57,55,48,55,49,55,50,55,51,55,52,55,53,55,54,55,55,55,56,55,57,56,48,56,49,56,50,56,51,56,52,56,53,56,54,56,55,56,56,56,57,57,48,57,49,57,50,57,51,57,52,57,53,57,54,57,55,57,56,57,57]⟩) t45 h).ok1 fun t46 h=>(xindex P 9 (.string ⟨#[48,48,48,49,48,50,48,51,48,52,48,53,48,54,48,55,48,56,48,57,49,48,49,49,49,50,49,51,49,52,49,53,49,54,49,55,49,56,49,57,50,48,50,49,50,50,50,51,50,52,50,53,50,54,50,55,50,56,50,57,51,48,51,49,51,50,51,51,51,52,51,53,51,54,51,55,51,56,51,57,52,48,52,49,52,50,52,51,52,52,52,53,52,54,52,55,52,56,52,57,53,48,53,49,53,50,53,51,53,52,53,53,53,54,53,55,53,56,53,57,54,48,54,49,54,50,54,51,54,52,54,53,54,54,54,55,54,56,54,57,55,48,55,49,55,50,55,51,55,52,55,53,55,54,55,55,55,56,55,57,56,48,56,49,56,50,56,51,56,52,56,53,56,54,56,55,56,56,56,57,57,48,57,49,57,50,57,51,57,52,57,53,57,54,57,55,57,56,57,57]⟩) t13 h).ok1 fun t47 h=>(xindexAddr P 71 x0 t43 h).ok1 fun t48 h=>(xstore P 5 t48 t46 h).go .pan fun t49 h=>(xindexAddr P 71 x0 t44 h).ok1 fun t50 h=>(xstore P 5 t50 t47 h).go .pan fun t51 h=>(xbin P .sub 3 x4 (.int .i64 8) h).go .pan fun t52 h=>(l1 P cl nu nu x0 t5 t52 h)) else .bad) else .bad) else .bad) else .bad) else .bad) else .bad) else .bad) else .bad) else .bad) else .bad) else .bad) else .bad:=by kernel_rfl
theorem j12_eq:j12 P cl nu nu0 x0 x1 x4 h=(xconvert P 154 145 x1 h).go .pan fun t53 h=>(xbin P .geq 3 x4 (.int .i64 4) h).go .pan fun t54 h=>ifV t54 ((xbin P .rem 145 t53 (.int .u32 10000) h).go .pan fun t55 h=>(xbin P .quo 145 t53 (.int .u32 10000) h).go .pan fun t56 h=>(xbin P .quo 145 t55 (.int .u32 100) h).go .pan fun t57 h=>(xbin P .mul 145 t57 (.int .u32 2) h).go .pan fun t58 h=>(xbin P .rem 145 t55 (.int .u32 100) h).go .pan fun t59 h=>(xbin P .mul 145 t59 (.int .u32 2) h).go .pan fun t60 h=>bif plain2 x4 (.int .i64 1) then ((xbin P .sub 3 x4 (.int .i64 1) h).ok1 fun t61 h=>bif plain2 x4 (.int .i64 2) then ((xbin P .sub 3 x4 (.int .i64 2) h).ok1 fun t62 h=>bif plain2 t60 (.int .u32 1) then ((xbin P .add 145 t60 (.int .u32 1) h).ok1 fun t63 h=>(xindex P 9 (.string ⟨#[48,48,48,49,48,50,48,51,48,52,48,53,48,54,48,55,48,56,48,57,49,48,49,49,49,50,49,51,49,52,49,53,49,54,49,55,49,56,49,57,50,48,50,49,50,50,50,51,50,52,50,53,50,54,50,55,50,56,50,57,51,48,51,49,51,50,51,51,51,52,51,53,51,54,51,55,51,56,51,57,52,48,52,49,52,50,52,51,52,52,52,53,52,54,52,55,52,56,52,57,53,48,53,49,53,50,53,51,53,52,53,53,53,54,53,55,53,56,53,57,54,48,54,49,54,50,54,51,54,52,54,53,54,54,54,55,54,56,54,57,55,48,55,49,55,50,55,51,55,52,55,53,55,54,55,55,55,56,55,57,56,48,56,49,56,50,56,51,56,52,56,53,56,54,56,55,56,56,56,57,57,48,57,49,57,50,57,51,57,52,57,53,57,54,57,55,57,56,57,57]⟩) t63 h).ok1 fun t64 h=>(xindex P 9 (.string ⟨#[48,48,48,49,48,50,48,51,48,52,48,53,48,54,48,55,48,56,48,57,49,48,49,49,49,50,49,51,49,52,49,53,49,54,49,55,49,56,49,57,50,48,50,49,50,50,50,51,50,52,50,53,50,54,50,55,50,56,50,57,51,48,51,49,51,50,51,51,51,52,51,53,51,54,51,55,51,56,51,57,52,48,52,49,52,50,52,51,52,52,52,53,52,54,52,55,52,56,52,57,53,48,53,49,53,50,53,51,53,52,53,53,53,54,53,55,53,56,53,57,54,48,54,49,54,50,54,51,54,52,54,53,54,54,54,55,54,56,54,57,55,48,55,49,55,50,55,51,55,52,55,53,55,54,55,55,55,56,55,57,56,48,56,49,56,50,56,51,56,52,56,53,56,54,56,55,56,56,56,57,57,48,57,49,57,50,57,51,57,52,57,53,57,54,57,55,57,56,57,57]⟩) t60 h).ok1 fun t65 h=>(xindexAddr P 71 x0 t61 h).ok1 fun t66 h=>(xstore P 5 t66 t64 h).go .pan fun t67 h=>(xindexAddr P 71 x0 t62 h).ok1 fun t68 h=>(xstore P 5 t68 t65 h).go .pan fun t69 h=>bif plain2 x4 (.int .i64 3) then ((xbin P .sub 3 x4 (.int .i64 3) h).ok1 fun t70 h=>bif plain2 x4 (.int .i64 4) then ((xbin P .sub 3 x4 (.int .i64 4) h).ok1 fun t71 h=>bif plain2 t58 (.int .u32 1) then ((xbin P .add 145 t58 (.int .u32 1) h).ok1 fun t72 h=>(xindex P 9 (.string ⟨#[48,48,48,49,48,50,48,51,48,52,48,53,48,54,48,55,48,56,48,57,49,48,49,49,49,50,49,51,49,52,49,53,49,54,49,55,49,56,49,57,50,48,50,49,50,50,50,51,50,52,50,53,50,54,50,55,50,56,50,57,51,48,51,49,51,50,51,51,51,52,51,53,51,54,51,55,51,56,51,57,52,48,52,49,52,50,52,51,52,52,52,53,52,54,52,55,52,56,52,57,53,48,53,49,53,50,53,51,53,52,53,53,53,54,53,55,53,56,53,57,54,48,54,49,54,50,54,51,54,52,54,53,54,54,54,55,54,56,54,57,55,48,55,49,55,50,55,51,55,52,55,53,55,54,55,55,55,56,55,57,56,48,56,49,56,50,56,51,56,52,56,53,56,54,56,55,56,56,56,57,57,48,57,49,57,50,57,51,57,52,57,53,57,54,57,55,57,56,57,57]⟩) t72 h).ok1 fun t73 h=>(xindex P 9 (.string ⟨#[48,48,48,49,48,50,48,51,48,52,48,53,48,54,48,55,48,56,48,57,49,48,49,49,49,50,49,51,49,52,49,53,49,54,49,55,49,56,49,57,50,48,50,49,50,50,50,51,50,52,50,53,50,54,50,55,50,56,50,57,51,48,51,49,51,50,51,51,51,52,51,53,51,54,51,55,51,56,51,57,52,48,52,49,52,50,52,51,52,52,52,53,52,54,52,55,52,56,52,57,53,48,53,49,53,50,53,51,53,52,53,53,53,54,53,55,53,56,53,57,54,48,54,49,54,50,54,51,54,52,54,53,54,54,54,55,54,56,54,57,55,48,55,49,55,50,55,51,55,52,55,53,55,54,55,55,55,56,55,57,56,48,56,49,56,50,56,51,56,52,56,53,56,54,56,55,56,56,56,57,57,48,57,49,57,50,57,51,57,52,57,53,57,54,57,55,57,56,57,57]⟩) t58 h).ok1 fun t74 h=>(xindexAddr P 71 x0 t70 h).ok1 fun t75 h=>(xstore P 5 t75 t73 h).go .pan fun t76 h=>(xindexAddr P 71 x0 t71 h).ok1 fun t77 h=>(xstore P 5 t77 t74 h).go .pan fun t78 h=>(xbin P .sub 3 x4 (.int .i64 4) h).go .pan fun t79 h=>(j20 P cl nu nu x0 t79 t56 h)) else .bad) else .bad) else .bad) else .bad) else .bad) else .bad) (j20 P cl nu nu x0 x4 t53 h):=by kernel_rfl
theorem j20_eq:j20 P cl nu nu0 x0 x4 x12 h=(xbin P .geq 3 x4 (.int .i64 2) h).go .pan fun t80 h=>ifV t80 ((xbin P .rem 145 x12 (.int .u32 100) h).go .pan fun t81 h=>(xbin P .mul 145 t81 (.int .u32 2) h).go .pan fun t82 h=>(xbin P .quo 145 x12 (.int .u32 100) h).go .pan fun t83 h=>bif plain2 x4 (.int .i64 1) then ((xbin P .sub 3 x4 (.int .i64 1) h).ok1 fun t84 h=>bif plain2 x4 (.int .i64 2) then ((xbin P .sub 3 x4 (.int .i64 2) h).ok1 fun t85 h=>bif plain2 t82 (.int .u32 1) then ((xbin P .add 145 t82 (.int .u32 1) h).ok1 fun t86 h=>(xindex P 9 (.string ⟨#[48,48,48,49,48,50,48,51,48,52,48,53,48,54,48,55,48,56,48,57,49,48,49,49,49,50,49,51,49,52,49,53,49,54,49,55,49,56,49,57,50,48,50,49,50,50,50,51,50,52,50,53,50,54,50,55,50,56,50,57,51,48,51,49,51,50,51,51,51,52,51,53,51,54,51,55,51,56,51,57,52,48,52,49,52,50,52,51,52,52,52,53,52,54,52,55,52,56,52,57,53,48,53,49,53,50,53,51,53,52,53,53,53,54,53,55,53,56,53,57,54,48,54,49,54,50,54,51,54,52,54,53,54,54,54,55,54,56,54,57,55,48,55,49,55,50,55,51,55,52,55,53,55,54,55,55,55,56,55,57,56,48,56,49,56,50,56,51,56,52,56,53,56,54,56,55,56,56,56,57,57,48,57,49,57,50,57,51,57,52,57,53,57,54,57,55,57,56,57,57]⟩) t86 h).ok1 fun t87 h=>(xindex P 9 (.string ⟨#[48,48,48,49,48,50,48,51,48,52,48,53,48,54,48,55,48,56,48,57,49,48,49,49,49,50,49,51,49,52,49,53,49,54,49,55,49,56,49,57,50,48,50,49,50,50,50,51,50,52,50,53,50,54,50,55,50,56,50,57,51,48,51,49,51,50,51,51,51,52,51,53,51,54,51,55,51,56,51,57,52,48,52,49,52,50,52,51,52,52,52,53,52,54,52,55,52,56,52,57,53,48,53,49,53,50,53,51,53,52,53,53,53,54,53,55,53,56,53,57,54,48,54,49,54,50,54,51,54,52,54,53,54,54,54,55,54,56,54,57,55,48,55,49,55,50,55,51,55,52,55,53,55,54,55,55,55,56,55,57,56,48,56,49,56,50,56,51,56,52,56,53,56,54,56,55,56,56,56,57,57,48,57,49,57,50,57,51,57,52,57,53,57,54,57,55,57,56,57,57]⟩) t82 h).ok1 fun t88 h=>(xindexAddr P 71 x0 t84 h).ok1 fun t89 h=>(xstore P 5 t89 t87 h).go .pan fun t90 h=>(xindexAddr P 71 x0 t85 h).ok1 fun t91 h=>(xstore P 5 t91 t88 h).go .pan fun t92 h=>(xbin P .sub 3 x4 (.int .i64 2) h).go .pan fun t93 h=>(j25 P cl nu nu x0 t93 t83 h)) else .bad) else .bad) else .bad) (j25 P cl nu nu x0 x4 x12 h):=by kernel_rfl
theorem j25_eq:j25 P cl nu nu0 x0 x4 x12 h=(xbin P .gtr 3 x4 (.int .i64 0) h).go .pan fun t94 h=>ifV t94 ((xbin P .add 145 (.int .u32 48) x12 h).go .pan fun t95 h=>(xconvert P 145 5 t95 h).go .pan fun t96 h=>(xindexAddr P 71 x0 (.int .i64 0) h).go .pan fun t97 h=>(xstore P 5 t97 t96 h).go .pan fun t98 h=>.ok (.tuple ⟨[]⟩) h) (.ok (.tuple ⟨[]⟩) h):=by kernel_rfl
theorem eq:runX P cl nu an183 Tryz.f183 [x0,x1] h=(xbuiltin P .len [71] [x0] h).go .pan fun t1 h=>(l1 P cl nu nu x0 x1 t1 h):=by kernel_rfl
end
end F183
namespace F185
noncomputable section
variable (P:Program) (cl:Cl) (nu mu:Nu) (x0 x1:Value) (h:H)
theorem eq:runX P cl nu an185 Tryz.f185 [x0,x1] h=(cl (.f 199) [x0,x1] h).go .pan fun t1 h=>.ok t1 h:=by kernel_rfl
end
end F185
namespace F192
noncomputable section
variable (P:Program) (cl:Cl) (nu mu:Nu) (x0 x1 x5 x6:Value) (h:H)
noncomputable def s:=sub (bodyOf Tryz.f192)
noncomputable def k0:Ko:=kfn P Tryz.f192.results.toList
def j3:=mu 6 (evT P cl an192 nu (s [1,1]) (k0 P)) [(0,x0),(1,x1)] h
def j5:=mu 10 (evT P cl an192 nu (s [1,1,1]) (k0 P)) [(0,x0),(1,x1)] h
theorem j3_eq:j3 P cl nu nu0 x0 x1 h=(xbuiltin P .len [9] [x1] h).go .pan fun t5 h=>(xbin P .eql 3 t5 (.int .i64 1) h).go .pan fun t6 h=>ifV t6 ((xindex P 9 x1 (.int .i64 0) h).go .pan fun t7 h=>(cl (.f 203) [x0,t7] h).go .pan fun t8 h=>.ok t8 h) (j5 P cl nu nu x0 x1 h):=by kernel_rfl
theorem eq:runX P cl nu an192 Tryz.f192 [x0,x1] h=(xbuiltin P .len [9] [x1] h).go .pan fun t1 h=>(xbin P .eql 3 t1 (.int .i64 0) h).go .pan fun t2 h=>ifV t2 ((cl (.f 201) [x0] h).go .pan fun t3 h=>(xbin P .add 3 t3 (.int .i64 1) h).go .pan fun t4 h=>.ok t4 h) (j3 P cl nu nu x0 x1 h):=by kernel_rfl
end
end F192
namespace F193
noncomputable section
variable (P:Program) (cl:Cl) (nu mu:Nu) (x0 x1:Value) (h:H)
theorem eq:runX P cl nu an193 Tryz.f193 [x0,x1] h=(cl (.f 172) [x0,x1] h).go .pan fun t1 h=>.ok t1 h:=by kernel_rfl
end
end F193
namespace F195
noncomputable section
variable (P:Program) (cl:Cl) (nu mu:Nu) (x0 x2:Value) (h:H)
noncomputable def s:=sub (bodyOf Tryz.f195)
noncomputable def k0:Ko:=kfn P Tryz.f195.results.toList
def j4:=mu 8 (evT P cl an195 nu (s [1,1]) (k0 P)) [(0,x0),(2,x2)] h
def j7:=mu 14 (evT P cl an195 nu (s [1,1,1]) (k0 P)) [(0,x0),(2,x2)] h
def j10:=mu 20 (evT P cl an195 nu (s [1,1,1,1]) (k0 P)) [(0,x0),(2,x2)] h
theorem j4_eq:j4 P cl nu nu0 x0 x2 h=(xbin P .geq 154 x0 (.int .u64 65536) h).go .pan fun t3 h=>ifV t3 ((xbin P .shr 154 x0 (.int .u64 16) h).go .pan fun t4 h=>(xbin P .add 3 x2 (.int .i64 16) h).go .pan fun t5 h=>(j7 P cl nu nu t4 t5 h)) (j7 P cl nu nu x0 x2 h):=by kernel_rfl
theorem j7_eq:j7 P cl nu nu0 x0 x2 h=(xbin P .geq 154 x0 (.int .u64 256) h).go .pan fun t6 h=>ifV t6 ((xbin P .shr 154 x0 (.int .u64 8) h).go .pan fun t7 h=>(xbin P .add 3 x2 (.int .i64 8) h).go .pan fun t8 h=>(j10 P cl nu nu t7 t8 h)) (j10 P cl nu nu x0 x2 h):=by kernel_rfl
theorem j10_eq:j10 P cl nu nu0 x0 x2 h=(xconvert P 154 5 x0 h).go .pan fun t9 h=>(xindex P 9 (.string ⟨#[0,1,2,2,3,3,3,3,4,4,4,4,4,4,4,4,5,5,5,5,5,5,5,5,5,5,5,5,5,5,5,5,6,6,6,6,6,6,6,6,6,6,6,6,6,6,6,6,6,6,6,6,6,6,6,6,6,6,6,6,6,6,6,6,7,7,7,7,7,7,7,7,7,7,7,7,7,7,7,7,7,7,7,7,7,7,7,7,7,7,7,7,7,7,7,7,7,7,7,7,7,7,7,7,7,7,7,7,7,7,7,7,7,7,7,7,7,7,7,7,7,7,7,7,7,7,7,7,8,8,8,8,8,8,8,8,8,8,8,8,8,8,8,8,8,8,8,8,8,8,8,8,8,8,8,8,8,8,8,8,8,8,8,8,8,8,8,8,8,8,8,8,8,8,8,8,8,8,8,8,8,8,8,8,8,8,8,8,8,8,8,8,8,8,8,8,8,8,8,8,8,8,8,8,8,8,8,8,8,8,8,8,8,8,8,8,8,8,8,8,8,8,8,8,8,8,8,8,8,8,8,8,8,8,8,8,8,8,8,8,8,8,8,8,8,8,8,8,8,8,8,8,8,8,8,8]⟩) t9 h).go .pan fun t10 h=>(xconvert P 5 3 t10 h).go .pan fun t11 h=>(xbin P .add 3 x2 t11 h).go .pan fun t12 h=>.ok t12 h:=by kernel_rfl
theorem eq:runX P cl nu an195 Tryz.f195 [x0] h=(xbin P .geq 154 x0 (.int .u64 4294967296) h).go .pan fun t1 h=>ifV t1 ((xbin P .shr 154 x0 (.int .u64 32) h).go .pan fun t2 h=>(j4 P cl nu nu t2 (.int .i64 32) h)) (j4 P cl nu nu x0 (.int .i64 0) h):=by kernel_rfl
end
end F195
end Go.Proofs.YtbfgadekkemlcaaGreatDoor.K
namespace Go.Proofs.YtbfgadekkemlcaaGreatDoor.K
open Go Go.Kx
namespace F194
noncomputable section
variable (P:Program) (cl:Cl) (nu mu:Nu) (x0:Value) (h:H)
theorem eq:runX P cl nu an194 Tryz.f194 [x0] h=(xbin P .mul 3 x0 (.int .i64 78913) h).go .pan fun t1 h=>(xbin P .shr 3 t1 (.int .u64 18) h).go .pan fun t2 h=>.ok t2 h:=by kernel_rfl
end
end F194
namespace F196
noncomputable section
variable (P:Program) (cl:Cl) (nu mu:Nu) (x0:Value) (h:H)
theorem eq:runX P cl nu an196 Tryz.f196 [x0] h=ifV x0 (.ok (.int .i64 1) h) (.ok (.int .i64 0) h):=by kernel_rfl
end
end F196
end Go.Proofs.YtbfgadekkemlcaaGreatDoor.K
namespace Go.Proofs.YtbfgadekkemlcaaGreatDoor.K
open Go Go.Kx
namespace F47
noncomputable section
variable (P:Program) (cl:Cl) (nu mu:Nu) (x0 x1 x5:Value) (h:H)
noncomputable def s:=sub (bodyOf Tryz.f47)
noncomputable def k0:Ko:=kfn P Tryz.f47.results.toList
def k1:Ko:=kC P cl nu an47 (s [1,1]) (k0 P)
def k2:Ko:=kblk 0 (k1 P cl nu)
def l2:=mu 5 (lC P cl nu an47 [0,1,5] (s [1,0,1,0,0]) (k2 P cl nu)) [(0,x0),(1,x1),(5,x5)] h
def k3:Ko:=kL P cl nu an47 5 [0,1,5] (s [1,0,1,0,0]) (k2 P cl nu)
def j4:=mu 8 (evT P cl an47 nu (s [1,0,1,0,0,1]) (k3 P cl nu)) [(0,x0),(1,x1),(5,x5)] h
def j6:=mu 12 (evT P cl an47 nu (s [1,1]) (k0 P)) [] h
theorem l2n:evT P cl an47 nu (s [1,0,1,0,0]) (kL P cl nu an47 5 [0,1,5] (s [1,0,1,0,0]) (k2 P cl nu)) [(0,x0),(1,x1),(5,x5)] h=(xbuiltin P .len [22] [x0] h).go .pan fun t1 h=>(xbin P .lss 3 x5 t1 h).go .pan fun t2 h=>ifV t2 (j4 P cl nu nu x0 x1 x5 h) (j6 P cl nu nu h):=by kernel_rfl
def l2_eq:=@id (l2 P cl nu0 nu0 x0 x1 x5 h=_) (lpN (l2n P cl nu0 x0 x1 x5 h))
theorem j4_eq:j4 P cl nu nu0 x0 x1 x5 h=(xindexAddr P 22 x0 x5 h).go .pan fun t3 h=>(xload P 9 t3 h).go .pan fun t4 h=>(xbin P .eql 9 t4 x1 h).go .pan fun t5 h=>ifV t5 (.ok (.bool true) h) ((xbin P .add 3 x5 (.int .i64 1) h).go .pan fun t6 h=>(l2 P cl nu nu x0 x1 t6 h)):=by kernel_rfl
theorem j6_eq:j6 P cl nu nu0 h = .ok (.bool false) h:=by kernel_rfl
theorem eq:runX P cl nu an47 Tryz.f47 [x0,x1] h=l2 P cl nu nu x0 x1 (.int .i64 0) h:=by kernel_rfl
end
end F47
namespace F48
noncomputable section
variable (P:Program) (cl:Cl) (nu mu:Nu) (x0 x1 x5:Value) (h:H)
noncomputable def s:=sub (bodyOf Tryz.f48)
noncomputable def k0:Ko:=kfn P Tryz.f48.results.toList
def k1:Ko:=kC P cl nu an48 (s [1,1]) (k0 P)
def k2:Ko:=kblk 0 (k1 P cl nu)
def l2:=mu 5 (lC P cl nu an48 [0,1,5] (s [1,0,1,0,0]) (k2 P cl nu)) [(0,x0),(1,x1),(5,x5)] h
def k3:Ko:=kL P cl nu an48 5 [0,1,5] (s [1,0,1,0,0]) (k2 P cl nu)
def j4:=mu 8 (evT P cl an48 nu (s [1,0,1,0,0,1]) (k3 P cl nu)) [(0,x0),(1,x1),(5,x5)] h
def j6:=mu 12 (evT P cl an48 nu (s [1,1]) (k0 P)) [] h
theorem l2n:evT P cl an48 nu (s [1,0,1,0,0]) (kL P cl nu an48 5 [0,1,5] (s [1,0,1,0,0]) (k2 P cl nu)) [(0,x0),(1,x1),(5,x5)] h=(xbuiltin P .len [22] [x0] h).go .pan fun t1 h=>(xbin P .lss 3 x5 t1 h).go .pan fun t2 h=>ifV t2 (j4 P cl nu nu x0 x1 x5 h) (j6 P cl nu nu h):=by kernel_rfl
def l2_eq:=@id (l2 P cl nu0 nu0 x0 x1 x5 h=_) (lpN (l2n P cl nu0 x0 x1 x5 h))
theorem j4_eq:j4 P cl nu nu0 x0 x1 x5 h=(xindexAddr P 22 x0 x5 h).go .pan fun t3 h=>(xload P 9 t3 h).go .pan fun t4 h=>(cl (.f 85) [t4,x1] h).go .pan fun t5 h=>ifV t5 (.ok (.bool true) h) ((xindexAddr P 22 x0 x5 h).go .pan fun t6 h=>(xload P 9 t6 h).go .pan fun t7 h=>(cl (.f 85) [x1,t7] h).go .pan fun t8 h=>ifV t8 (.ok (.bool true) h) ((xbin P .add 3 x5 (.int .i64 1) h).go .pan fun t9 h=>(l2 P cl nu nu x0 x1 t9 h))):=by kernel_rfl
theorem j6_eq:j6 P cl nu nu0 h = .ok (.bool false) h:=by kernel_rfl
theorem eq:runX P cl nu an48 Tryz.f48 [x0,x1] h=l2 P cl nu nu x0 x1 (.int .i64 0) h:=by kernel_rfl
end
end F48
namespace F51
noncomputable section
variable (P:Program) (cl:Cl) (nu mu:Nu) (x0 x4 x5 x6 x7:Value) (h:H)
noncomputable def s:=sub (bodyOf Tryz.f51)
noncomputable def k0:Ko:=kfn P Tryz.f51.results.toList
def j3:=mu 6 (evT P cl an51 nu (s [1,1]) (k0 P)) [(0,x0)] h
def k2:Ko:=kC P cl nu an51 (s [1,1,1,1,1]) (k0 P)
def k3:Ko:=kblk 0 (k2 P cl nu)
def l6:=mu 13 (lC P cl nu an51 [0,4,5,6,7] (s [1,1,1,1,0,1,0,0]) (k3 P cl nu)) [(0,x0),(4,x4),(5,x5),(6,x6),(7,x7)] h
def k4:Ko:=kL P cl nu an51 13 [0,4,5,6,7] (s [1,1,1,1,0,1,0,0]) (k3 P cl nu)
def j8:=mu 16 (evT P cl an51 nu (s [1,1,1,1,0,1,0,0,1]) (k4 P cl nu)) [(0,x0),(4,x4),(5,x5),(6,x6),(7,x7)] h
def k6:Ko:=kC P cl nu an51 (s [1,1,1,1,0,1,0,0,1,1]) (k4 P cl nu)
def k7:Ko:=kblk 1 (k6 P cl nu)
def j15:=mu 30 (evT P cl an51 nu (s [1,1,1,1,1]) (k0 P)) [(4,x4)] h
def j10:=mu 20 (evT P cl an51 nu (s [1,1,1,1,0,1,0,0,1,0,0,1]) (k7 P cl nu)) [(0,x0),(4,x4),(5,x5),(6,x6),(7,x7)] h
theorem j3_eq:j3 P cl nu nu0 x0 h=l6 P cl nu nu x0 (.slice none 0 0) (.slice none 0 0) (.slice none 0 0) (.int .i64 0) h:=by kernel_rfl
theorem l6n:evT P cl an51 nu (s [1,1,1,1,0,1,0,0]) (kL P cl nu an51 13 [0,4,5,6,7] (s [1,1,1,1,0,1,0,0]) (k3 P cl nu)) [(0,x0),(4,x4),(5,x5),(6,x6),(7,x7)] h=(xbuiltin P .len [53] [x0] h).go .pan fun t3 h=>(xbin P .lss 3 x7 t3 h).go .pan fun t4 h=>ifV t4 (j8 P cl nu nu x0 x4 x5 x6 x7 h) (j15 P cl nu nu x4 h):=by kernel_rfl
def l6_eq:=@id (l6 P cl nu0 nu0 x0 x4 x5 x6 x7 h=_) (lpN (l6n P cl nu0 x0 x4 x5 x6 x7 h))
theorem j8_eq:j8 P cl nu nu0 x0 x4 x5 x6 x7 h=(xindexAddr P 53 x0 x7 h).go .pan fun t5 h=>(xfieldAddr P 25 t5 0 h).go .pan fun t6 h=>(xload P 9 t6 h).go .pan fun t7 h=>(cl (.f 47) [x5,t7] h).go .pan fun t8 h=>ifV t8 (.ok (.tuple ⟨[(.string ⟨#[]⟩),(.bool false)]⟩) h) (j10 P cl nu nu x0 x4 x5 x6 x7 h):=by kernel_rfl
theorem j15_eq:j15 P cl nu nu0 x4 h=(xconvert P 71 9 x4 h).go .pan fun t9 h=>.ok (.tuple ⟨[t9,(.bool true)]⟩) h:=by kernel_rfl
theorem j10_eq:j10 P cl nu nu0 x0 x4 x5 x6 x7 h=(xindexAddr P 53 x0 x7 h).go .pan fun t10 h=>(xfieldAddr P 25 t10 0 h).go .pan fun t11 h=>(xload P 9 t11 h).go .pan fun t12 h=>(xbuildSlice P 22 1 [(0,t12)] h).go .pan fun t13 h=>(xbuiltin P .append [22,22] [x5,t13] h).go .pan fun t14 h=>(xindexAddr P 53 x0 x7 h).go .pan fun t15 h=>(xload P 25 t15 h).go .pan fun t16 h=>(cl (.f 86) [x4,t16,x6] h).go .pan fun t17 h=>(xextract t17 0 h).go .pan fun t18 h=>(xextract t17 1 h).go .pan fun t19 h=>(xextract t17 2 h).go .pan fun t20 h=>(xun P .not t20 h).go .pan fun t21 h=>ifV t21 (.ok (.tuple ⟨[(.string ⟨#[]⟩),(.bool false)]⟩) h) ((xbin P .add 3 x7 (.int .i64 1) h).go .pan fun t22 h=>(l6 P cl nu nu x0 t18 t14 t19 t22 h)):=by kernel_rfl
theorem eq:runX P cl nu an51 Tryz.f51 [x0] h=(xbuiltin P .len [53] [x0] h).go .pan fun t1 h=>(xbin P .gtr 3 t1 (.int .i64 256) h).go .pan fun t2 h=>ifV t2 (.ok (.tuple ⟨[(.string ⟨#[]⟩),(.bool false)]⟩) h) (j3 P cl nu nu x0 h):=by kernel_rfl
end
end F51
namespace F63
noncomputable section
variable (P:Program) (cl:Cl) (nu mu:Nu) (x0 x1 x5:Value) (h:H)
noncomputable def s:=sub (bodyOf Tryz.f63)
noncomputable def k0:Ko:=kfn P Tryz.f63.results.toList
def j3:=mu 6 (evT P cl an63 nu (s [1,1]) (k0 P)) [(0,x0),(1,x1)] h
def k2:Ko:=kC P cl nu an63 (s [1,1,1]) (k0 P)
def k3:Ko:=kblk 0 (k2 P cl nu)
def l4:=mu 9 (lC P cl nu an63 [0,1,5] (s [1,1,0,1,0,0]) (k3 P cl nu)) [(0,x0),(1,x1),(5,x5)] h
def k4:Ko:=kL P cl nu an63 9 [0,1,5] (s [1,1,0,1,0,0]) (k3 P cl nu)
def j6:=mu 12 (evT P cl an63 nu (s [1,1,0,1,0,0,1]) (k4 P cl nu)) [(0,x0),(1,x1),(5,x5)] h
def j8:=mu 16 (evT P cl an63 nu (s [1,1,1]) (k0 P)) [] h
theorem j3_eq:j3 P cl nu nu0 x0 x1 h=l4 P cl nu nu x0 x1 (.int .i64 0) h:=by kernel_rfl
theorem l4n:evT P cl an63 nu (s [1,1,0,1,0,0]) (kL P cl nu an63 9 [0,1,5] (s [1,1,0,1,0,0]) (k3 P cl nu)) [(0,x0),(1,x1),(5,x5)] h=(xbuiltin P .len [22] [x0] h).go .pan fun t4 h=>(xbin P .lss 3 x5 t4 h).go .pan fun t5 h=>ifV t5 (j6 P cl nu nu x0 x1 x5 h) (j8 P cl nu nu h):=by kernel_rfl
def l4_eq:=@id (l4 P cl nu0 nu0 x0 x1 x5 h=_) (lpN (l4n P cl nu0 x0 x1 x5 h))
theorem j6_eq:j6 P cl nu nu0 x0 x1 x5 h=(xindexAddr P 22 x0 x5 h).ok1 fun t6 h=>(xload P 9 t6 h).ok1 fun t7 h=>(xindexAddr P 22 x1 x5 h).ok1 fun t8 h=>(xload P 9 t8 h).ok1 fun t9 h=>bif plain2 t7 t9 then ((xbin P .neq 9 t7 t9 h).ok1 fun t10 h=>ifV t10 (.ok (.bool false) h) ((xbin P .add 3 x5 (.int .i64 1) h).go .pan fun t11 h=>(l4 P cl nu nu x0 x1 t11 h))) else .bad:=by kernel_rfl
theorem j8_eq:j8 P cl nu nu0 h = .ok (.bool true) h:=by kernel_rfl
theorem eq:runX P cl nu an63 Tryz.f63 [x0,x1] h=(xbuiltin P .len [22] [x0] h).go .pan fun t1 h=>(xbuiltin P .len [22] [x1] h).go .pan fun t2 h=>(xbin P .neq 3 t1 t2 h).go .pan fun t3 h=>ifV t3 (.ok (.bool false) h) (j3 P cl nu nu x0 x1 h):=by kernel_rfl
end
end F63
namespace F84
noncomputable section
variable (P:Program) (cl:Cl) (nu mu:Nu) (x0 x3 x4 x5 x20 x24 x25 x37 x41 x42:Value) (h:H)
noncomputable def s:=sub (bodyOf Tryz.f84)
noncomputable def k0:Ko:=kfn P Tryz.f84.results.toList
def k1:Ko:=kC P cl nu an84 (s [1,1,1]) (k0 P)
def k2:Ko:=kblk 0 (k1 P cl nu)
def l3:=mu 7 (lC P cl nu an84 [0,3,4] (s [1,1,0,1,0,0]) (k2 P cl nu)) [(0,x0),(3,x3),(4,x4)] h
def k3:Ko:=kL P cl nu an84 7 [0,3,4] (s [1,1,0,1,0,0]) (k2 P cl nu)
def j5:=mu 10 (evT P cl an84 nu (s [1,1,0,1,0,0,1]) (k3 P cl nu)) [(0,x0),(3,x3),(4,x4)] h
def k5:Ko:=kC P cl nu an84 (s [1,1,0,1,0,0,1,1]) (k3 P cl nu)
def k6:Ko:=kblk 1 (k5 P cl nu)
def k7:Ko:=kblk 2 (k6 P cl nu)
def j13:=mu 26 (evT P cl an84 nu (s [1,1,1]) (k0 P)) [(3,x3)] h
def j8:=mu 16 (evT P cl an84 nu (s [1,1,0,1,0,0,1,0,0,1,0,1]) (k7 P cl nu)) [(0,x0),(3,x3),(4,x4),(5,x5),(20,x20),(24,x24),(25,x25)] h
def j12:=mu 24 (evT P cl an84 nu (s [1,1,0,1,0,0,1,0,0,1,0,1,1,1,1,1]) (k7 P cl nu)) [(0,x0),(3,x3),(4,x4),(5,x5),(24,x24),(25,x25),(37,x37),(41,x41),(42,x42)] h
theorem l3n:evT P cl an84 nu (s [1,1,0,1,0,0]) (kL P cl nu an84 7 [0,3,4] (s [1,1,0,1,0,0]) (k2 P cl nu)) [(0,x0),(3,x3),(4,x4)] h=(xbuiltin P .len [9] [x0] h).go .pan fun t2 h=>(xbin P .lss 3 x4 t2 h).go .pan fun t3 h=>ifV t3 (j5 P cl nu nu x0 x3 x4 h) (j13 P cl nu nu x3 h):=by kernel_rfl
def l3_eq:=@id (l3 P cl nu0 nu0 x0 x3 x4 h=_) (lpN (l3n P cl nu0 x0 x3 x4 h))
theorem j5_eq:j5 P cl nu nu0 x0 x3 x4 h=(xindex P 9 x0 x4 h).go .pan fun t4 h=>(xbin P .eql 5 t4 (.int .u8 34) h).go .pan fun t5 h=>ifV t5 (j8 P cl nu nu x0 x3 x4 t4 (.bool true) (.tuple #[]) (.tuple #[]) h) ((xbin P .eql 5 t4 (.int .u8 92) h).go .pan fun t6 h=>(j8 P cl nu nu x0 x3 x4 t4 t6 t4 t6 h)):=by kernel_rfl
theorem j13_eq:j13 P cl nu nu0 x3 h=(xbuildSlice P 71 1 [(0,(.int .u8 34))] h).go .pan fun t7 h=>(xbuiltin P .append [71,71] [x3,t7] h).go .pan fun t8 h=>(xconvert P 71 9 t8 h).go .pan fun t9 h=>.ok t9 h:=by kernel_rfl
theorem j8_eq:j8 P cl nu nu0 x0 x3 x4 x5 x20 x24 x25 h=ifV x20 ((xbuildSlice P 71 2 [(0,(.int .u8 92)),(1,x5)] h).go .pan fun t10 h=>(xbuiltin P .append [71,71] [x3,t10] h).go .pan fun t11 h=>(xbin P .add 3 x4 (.int .i64 1) h).go .pan fun t12 h=>(l3 P cl nu nu x0 t11 t12 h)) ((xbin P .eql 5 x5 (.int .u8 10) h).go .pan fun t13 h=>ifV t13 ((xbuildSlice P 71 2 [(0,(.int .u8 92)),(1,(.int .u8 110))] h).go .pan fun t14 h=>(xbuiltin P .append [71,71] [x3,t14] h).go .pan fun t15 h=>(xbin P .add 3 x4 (.int .i64 1) h).go .pan fun t16 h=>(l3 P cl nu nu x0 t15 t16 h)) ((xbin P .lss 5 x5 (.int .u8 32) h).go .pan fun t17 h=>ifV t17 (j12 P cl nu nu x0 x3 x4 x5 x24 x25 (.bool true) (.tuple #[]) (.tuple #[]) h) ((xbin P .gtr 5 x5 (.int .u8 126) h).go .pan fun t18 h=>(j12 P cl nu nu x0 x3 x4 x5 x24 x25 t18 x5 t18 h)))):=by kernel_rfl
theorem j12_eq:j12 P cl nu nu0 x0 x3 x4 x5 x24 x25 x37 x41 x42 h=ifV x37 (bif plain2 x5 (.int .u8 16) then ((xbin P .quo 5 x5 (.int .u8 16) h).ok1 fun t19 h=>(xindex P 9 (.string ⟨#[48,49,50,51,52,53,54,55,56,57,97,98,99,100,101,102]⟩) t19 h).ok1 fun t20 h=>bif plain2 x5 (.int .u8 16) then ((xbin P .rem 5 x5 (.int .u8 16) h).ok1 fun t21 h=>(xindex P 9 (.string ⟨#[48,49,50,51,52,53,54,55,56,57,97,98,99,100,101,102]⟩) t21 h).ok1 fun t22 h=>(xbuildSlice P 71 4 [(0,(.int .u8 92)),(1,(.int .u8 120)),(2,t20),(3,t22)] h).go .pan fun t23 h=>(xbuiltin P .append [71,71] [x3,t23] h).go .pan fun t24 h=>(xbin P .add 3 x4 (.int .i64 1) h).go .pan fun t25 h=>(l3 P cl nu nu x0 t24 t25 h)) else .bad) else .bad) ((xbuildSlice P 71 1 [(0,x5)] h).go .pan fun t26 h=>(xbuiltin P .append [71,71] [x3,t26] h).go .pan fun t27 h=>(xbin P .add 3 x4 (.int .i64 1) h).go .pan fun t28 h=>(l3 P cl nu nu x0 t27 t28 h)):=by kernel_rfl
theorem eq:runX P cl nu an84 Tryz.f84 [x0] h=(xbuildSlice P 71 1 [(0,(.int .u8 34))] h).go .pan fun t1 h=>(l3 P cl nu nu x0 t1 (.int .i64 0) h):=by kernel_rfl
end
end F84
namespace F85
noncomputable section
variable (P:Program) (cl:Cl) (nu mu:Nu) (x0 x1 x5 x6 x7:Value) (h:H)
noncomputable def s:=sub (bodyOf Tryz.f85)
noncomputable def k0:Ko:=kfn P Tryz.f85.results.toList
def j3:=mu 6 (evT P cl an85 nu (s [1,1]) (k0 P)) [(0,x0),(1,x1)] h
def j6:=mu 12 (evT P cl an85 nu (s [1,1,1,1]) (k0 P)) [(5,x5),(6,x6)] h
def k3:Ko:=kC P cl nu an85 (s [1,1,1,1,1]) (k0 P)
def k4:Ko:=kblk 0 (k3 P cl nu)
def l7:=mu 15 (lC P cl nu an85 [5,6,7] (s [1,1,1,1,0,1,0,0]) (k4 P cl nu)) [(5,x5),(6,x6),(7,x7)] h
def k5:Ko:=kL P cl nu an85 15 [5,6,7] (s [1,1,1,1,0,1,0,0]) (k4 P cl nu)
def j9:=mu 18 (evT P cl an85 nu (s [1,1,1,1,0,1,0,0,1]) (k5 P cl nu)) [(5,x5),(6,x6),(7,x7)] h
def j11:=mu 22 (evT P cl an85 nu (s [1,1,1,1,1]) (k0 P)) [] h
theorem j3_eq:j3 P cl nu nu0 x0 x1 h=(cl (.f 119) [x0] h).go .pan fun t2 h=>(cl (.f 119) [x1] h).go .pan fun t3 h=>(xbuiltin P .len [22] [t2] h).go .pan fun t4 h=>(xbuiltin P .len [22] [t3] h).go .pan fun t5 h=>(xbin P .gtr 3 t4 t5 h).go .pan fun t6 h=>ifV t6 (.ok (.bool false) h) (j6 P cl nu nu t2 t3 h):=by kernel_rfl
theorem j6_eq:j6 P cl nu nu0 x5 x6 h=l7 P cl nu nu x5 x6 (.int .i64 0) h:=by kernel_rfl
theorem l7n:evT P cl an85 nu (s [1,1,1,1,0,1,0,0]) (kL P cl nu an85 15 [5,6,7] (s [1,1,1,1,0,1,0,0]) (k4 P cl nu)) [(5,x5),(6,x6),(7,x7)] h=(xbuiltin P .len [22] [x5] h).go .pan fun t7 h=>(xbin P .lss 3 x7 t7 h).go .pan fun t8 h=>ifV t8 (j9 P cl nu nu x5 x6 x7 h) (j11 P cl nu nu h):=by kernel_rfl
def l7_eq:=@id (l7 P cl nu0 nu0 x5 x6 x7 h=_) (lpN (l7n P cl nu0 x5 x6 x7 h))
theorem j9_eq:j9 P cl nu nu0 x5 x6 x7 h=(xindexAddr P 22 x5 x7 h).ok1 fun t9 h=>(xload P 9 t9 h).ok1 fun t10 h=>(xindexAddr P 22 x6 x7 h).ok1 fun t11 h=>(xload P 9 t11 h).ok1 fun t12 h=>bif plain2 t10 t12 then ((xbin P .neq 9 t10 t12 h).ok1 fun t13 h=>ifV t13 (.ok (.bool false) h) ((xbin P .add 3 x7 (.int .i64 1) h).go .pan fun t14 h=>(l7 P cl nu nu x5 x6 t14 h))) else .bad:=by kernel_rfl
theorem j11_eq:j11 P cl nu nu0 h = .ok (.bool true) h:=by kernel_rfl
theorem eq:runX P cl nu an85 Tryz.f85 [x0,x1] h=(xbin P .eql 9 x0 (.string ⟨#[]⟩) h).go .pan fun t1 h=>ifV t1 (.ok (.bool true) h) (j3 P cl nu nu x0 x1 h):=by kernel_rfl
end
end F85
namespace F86
noncomputable section
variable (P:Program) (cl:Cl) (nu mu:Nu) (x0 x1 x2 x4 x9 x12 x142 x143 x144 x145 x146 x147 x148 x149:Value) (h:H)
noncomputable def s:=sub (bodyOf Tryz.f86)
noncomputable def k0:Ko:=kfn P Tryz.f86.results.toList
def j3:=mu 6 (evT P cl an86 nu (s [1,1]) (k0 P)) [(0,x0),(2,x2),(4,x4)] h
def j10:=mu 20 (evT P cl an86 nu (s [1,1,1,1,1,1,1,1]) (k0 P)) [(0,x0),(2,x2),(4,x4)] h
def k3:Ko:=kC P cl nu an86 (s [1,1,1,1,1,1,1,1,1]) (k0 P)
def k4:Ko:=kblk 0 (k3 P cl nu)
def l11:=mu 23 (lC P cl nu an86 [0,2,4,9] (s [1,1,1,1,1,1,1,1,0,1,0,0]) (k4 P cl nu)) [(0,x0),(2,x2),(4,x4),(9,x9)] h
def k5:Ko:=kL P cl nu an86 23 [0,2,4,9] (s [1,1,1,1,1,1,1,1,0,1,0,0]) (k4 P cl nu)
def j13:=mu 26 (evT P cl an86 nu (s [1,1,1,1,1,1,1,1,0,1,0,0,1]) (k5 P cl nu)) [(0,x0),(2,x2),(4,x4),(9,x9)] h
def k7:Ko:=kC P cl nu an86 (s [1,1,1,1,1,1,1,1,0,1,0,0,1,1]) (k5 P cl nu)
def k8:Ko:=kblk 1 (k7 P cl nu)
def j18:=mu 36 (evT P cl an86 nu (s [1,1,1,1,1,1,1,1,1]) (k0 P)) [(0,x0),(2,x2),(4,x4)] h
def j16:=mu 32 (evT P cl an86 nu (s [1,1,1,1,1,1,1,1,0,1,0,0,1,0,0,1,1]) (k8 P cl nu)) [(0,x0),(2,x2),(4,x4),(9,x9)] h
def j20:=mu 40 (evT P cl an86 nu (s [1,1,1,1,1,1,1,1,1,1]) (k0 P)) [(0,x0),(2,x2),(4,x4)] h
def k11:Ko:=kC P cl nu an86 (s [1,1,1,1,1,1,1,1,1,1,1]) (k0 P)
def k12:Ko:=kblk 2 (k11 P cl nu)
def l21:=mu 43 (lC P cl nu an86 [0,2,4,12] (s [1,1,1,1,1,1,1,1,1,1,0,1,0,0]) (k12 P cl nu)) [(0,x0),(2,x2),(4,x4),(12,x12)] h
def k13:Ko:=kL P cl nu an86 43 [0,2,4,12] (s [1,1,1,1,1,1,1,1,1,1,0,1,0,0]) (k12 P cl nu)
def j23:=mu 46 (evT P cl an86 nu (s [1,1,1,1,1,1,1,1,1,1,0,1,0,0,1]) (k13 P cl nu)) [(0,x0),(2,x2),(4,x4),(12,x12)] h
def k15:Ko:=kC P cl nu an86 (s [1,1,1,1,1,1,1,1,1,1,0,1,0,0,1,1]) (k13 P cl nu)
def k16:Ko:=kblk 3 (k15 P cl nu)
def j35:=mu 70 (evT P cl an86 nu (s [1,1,1,1,1,1,1,1,1,1,1]) (k0 P)) [(0,x0),(2,x2)] h
def j26:=mu 52 (evT P cl an86 nu (s [1,1,1,1,1,1,1,1,1,1,0,1,0,0,1,0,0,1,1]) (k16 P cl nu)) [(0,x0),(2,x2),(4,x4),(12,x12),(142,x142),(143,x143),(144,x144),(145,x145),(146,x146),(147,x147),(148,x148),(149,x149)] h
theorem j3_eq:j3 P cl nu nu0 x0 x2 x4 h=(xbuiltin P .append [71,9] [x0,(.string ⟨#[116,97,115,107,32]⟩)] h).go .pan fun t24 h=>(xfieldAddr P 25 x4 0 h).go .pan fun t25 h=>(xload P 9 t25 h).go .pan fun t26 h=>(xbuiltin P .append [71,9] [t24,t26] h).go .pan fun t27 h=>(xbuildSlice P 71 1 [(0,(.int .u8 32))] h).go .pan fun t28 h=>(xbuiltin P .append [71,71] [t27,t28] h).go .pan fun t29 h=>(xfieldAddr P 25 x4 1 h).go .pan fun t30 h=>(xload P 3 t30 h).go .pan fun t31 h=>(cl (.f 121) [t31] h).go .pan fun t32 h=>(xbuiltin P .append [71,9] [t29,t32] h).go .pan fun t33 h=>(xbuildSlice P 71 1 [(0,(.int .u8 10))] h).go .pan fun t34 h=>(xbuiltin P .append [71,71] [t33,t34] h).go .pan fun t35 h=>(xfieldAddr P 25 x4 2 h).go .pan fun t36 h=>(xload P 22 t36 h).go .pan fun t37 h=>(xbuiltin P .len [22] [t37] h).go .pan fun t38 h=>(xbin P .gtr 3 t38 (.int .i64 0) h).go .pan fun t39 h=>ifV t39 ((xbuiltin P .append [71,9] [t35,(.string ⟨#[105,110]⟩)] h).go .pan fun t40 h=>(j10 P cl nu nu t40 x2 x4 h)) (j10 P cl nu nu t35 x2 x4 h):=by kernel_rfl
theorem j10_eq:j10 P cl nu nu0 x0 x2 x4 h=l11 P cl nu nu x0 x2 x4 (.int .i64 0) h:=by kernel_rfl
theorem l11n:evT P cl an86 nu (s [1,1,1,1,1,1,1,1,0,1,0,0]) (kL P cl nu an86 23 [0,2,4,9] (s [1,1,1,1,1,1,1,1,0,1,0,0]) (k4 P cl nu)) [(0,x0),(2,x2),(4,x4),(9,x9)] h=(xfieldAddr P 25 x4 2 h).go .pan fun t41 h=>(xload P 22 t41 h).go .pan fun t42 h=>(xbuiltin P .len [22] [t42] h).go .pan fun t43 h=>(xbin P .lss 3 x9 t43 h).go .pan fun t44 h=>ifV t44 (j13 P cl nu nu x0 x2 x4 x9 h) (j18 P cl nu nu x0 x2 x4 h):=by kernel_rfl
def l11_eq:=@id (l11 P cl nu0 nu0 x0 x2 x4 x9 h=_) (lpN (l11n P cl nu0 x0 x2 x4 x9 h))
theorem j13_eq:j13 P cl nu nu0 x0 x2 x4 x9 h=(xfieldAddr P 25 x4 2 h).go .pan fun t45 h=>(xload P 22 t45 h).go .pan fun t46 h=>(xindexAddr P 22 t46 x9 h).go .pan fun t47 h=>(xload P 9 t47 h).go .pan fun t48 h=>(cl (.f 122) [t48] h).go .pan fun t49 h=>(xextract t49 0 h).go .pan fun t50 h=>(xextract t49 1 h).go .pan fun t51 h=>bif plain2 t51 (.int .i64 0) then ((xbin P .geq 3 t51 (.int .i64 0) h).ok1 fun t52 h=>ifV t52 (.ok (.tuple ⟨[x0,x2,(.bool false)]⟩) h) ((xfieldAddr P 25 x4 2 h).ok1 fun t53 h=>(xload P 22 t53 h).ok1 fun t54 h=>(xslice P 22 t54 none (some x9) none h).ok1 fun t55 h=>(xfieldAddr P 25 x4 2 h).ok1 fun t56 h=>(xload P 22 t56 h).ok1 fun t57 h=>(xindexAddr P 22 t57 x9 h).ok1 fun t58 h=>(xload P 9 t58 h).ok1 fun t59 h=>(cl (.f 47) [t55,t59] h).go .pan fun t60 h=>ifV t60 (.ok (.tuple ⟨[x0,x2,(.bool false)]⟩) h) (j16 P cl nu nu x0 x2 x4 x9 h))) else .bad:=by kernel_rfl
theorem j18_eq:j18 P cl nu nu0 x0 x2 x4 h=(xfieldAddr P 25 x4 2 h).go .pan fun t61 h=>(xload P 22 t61 h).go .pan fun t62 h=>(xbuiltin P .len [22] [t62] h).go .pan fun t63 h=>(xbin P .gtr 3 t63 (.int .i64 0) h).go .pan fun t64 h=>ifV t64 ((xbuildSlice P 71 1 [(0,(.int .u8 10))] h).go .pan fun t65 h=>(xbuiltin P .append [71,71] [x0,t65] h).go .pan fun t66 h=>(j20 P cl nu nu t66 x2 x4 h)) (j20 P cl nu nu x0 x2 x4 h):=by kernel_rfl
theorem j16_eq:j16 P cl nu nu0 x0 x2 x4 x9 h=(xbuildSlice P 71 1 [(0,(.int .u8 32))] h).go .pan fun t67 h=>(xbuiltin P .append [71,71] [x0,t67] h).go .pan fun t68 h=>(xfieldAddr P 25 x4 2 h).go .pan fun t69 h=>(xload P 22 t69 h).go .pan fun t70 h=>(xindexAddr P 22 t70 x9 h).go .pan fun t71 h=>(xload P 9 t71 h).go .pan fun t72 h=>(xbuiltin P .append [71,9] [t68,t72] h).go .pan fun t73 h=>(xbin P .add 3 x9 (.int .i64 1) h).go .pan fun t74 h=>(l11 P cl nu nu t73 x2 x4 t74 h):=by kernel_rfl
theorem j20_eq:j20 P cl nu nu0 x0 x2 x4 h=l21 P cl nu nu x0 x2 x4 (.int .i64 0) h:=by kernel_rfl
theorem l21n:evT P cl an86 nu (s [1,1,1,1,1,1,1,1,1,1,0,1,0,0]) (kL P cl nu an86 43 [0,2,4,12] (s [1,1,1,1,1,1,1,1,1,1,0,1,0,0]) (k12 P cl nu)) [(0,x0),(2,x2),(4,x4),(12,x12)] h=(xfieldAddr P 25 x4 3 h).go .pan fun t75 h=>(xload P 23 t75 h).go .pan fun t76 h=>(xbuiltin P .len [23] [t76] h).go .pan fun t77 h=>(xbin P .lss 3 x12 t77 h).go .pan fun t78 h=>ifV t78 (j23 P cl nu nu x0 x2 x4 x12 h) (j35 P cl nu nu x0 x2 h):=by kernel_rfl
def l21_eq:=@id (l21 P cl nu0 nu0 x0 x2 x4 x12 h=_) (lpN (l21n P cl nu0 x0 x2 x4 x12 h))
theorem j23_eq:j23 P cl nu nu0 x0 x2 x4 x12 h=(xfieldAddr P 25 x4 3 h).go .pan fun t79 h=>(xload P 23 t79 h).go .pan fun t80 h=>(xindexAddr P 23 t80 x12 h).go .pan fun t81 h=>(xfieldAddr P 48 t81 0 h).go .pan fun t82 h=>(xload P 9 t82 h).go .pan fun t83 h=>(cl (.f 122) [t83] h).go .pan fun t84 h=>(xextract t84 0 h).go .pan fun t85 h=>(xextract t84 1 h).go .pan fun t86 h=>(xbin P .geq 3 t86 (.int .i64 0) h).go .pan fun t87 h=>ifV t87 (.ok (.tuple ⟨[x0,x2,(.bool false)]⟩) h) ((xfieldAddr P 25 x4 3 h).go .pan fun t88 h=>(xload P 23 t88 h).go .pan fun t89 h=>(xindexAddr P 23 t89 x12 h).go .pan fun t90 h=>(xfieldAddr P 48 t90 0 h).go .pan fun t91 h=>(xload P 9 t91 h).go .pan fun t92 h=>(cl (.f 48) [x2,t92] h).go .pan fun t93 h=>ifV t93 (.ok (.tuple ⟨[x0,x2,(.bool false)]⟩) h) (j26 P cl nu nu x0 x2 x4 x12 x2 t88 t89 x12 t90 t91 t92 t93 h)):=by kernel_rfl
theorem j35_eq:j35 P cl nu nu0 x0 x2 h=(xbuiltin P .append [71,9] [x0,(.string ⟨#[101,110,100,10]⟩)] h).go .pan fun t94 h=>.ok (.tuple ⟨[t94,x2,(.bool true)]⟩) h:=by kernel_rfl
theorem j26_eq:j26 P cl nu nu0 x0 x2 x4 x12 x142 x143 x144 x145 x146 x147 x148 x149 h=(xfieldAddr P 25 x4 3 h).go .pan fun t95 h=>(xload P 23 t95 h).go .pan fun t96 h=>(xindexAddr P 23 t96 x12 h).go .pan fun t97 h=>(xfieldAddr P 48 t97 0 h).go .pan fun t98 h=>(xload P 9 t98 h).go .pan fun t99 h=>(xbuildSlice P 22 1 [(0,t99)] h).go .pan fun t100 h=>(xbuiltin P .append [22,22] [x2,t100] h).go .pan fun t101 h=>(xbuiltin P .append [71,9] [x0,(.string ⟨#[111,117,116,32]⟩)] h).go .pan fun t102 h=>(xfieldAddr P 25 x4 3 h).go .pan fun t103 h=>(xload P 23 t103 h).go .pan fun t104 h=>(xindexAddr P 23 t104 x12 h).go .pan fun t105 h=>(xfieldAddr P 48 t105 0 h).go .pan fun t106 h=>(xload P 9 t106 h).go .pan fun t107 h=>(xbuiltin P .append [71,9] [t102,t107] h).go .pan fun t108 h=>(xbuiltin P .append [71,9] [t108,(.string ⟨#[32,61,32]⟩)] h).go .pan fun t109 h=>(xfieldAddr P 25 x4 3 h).go .pan fun t110 h=>(xload P 23 t110 h).go .pan fun t111 h=>(xindexAddr P 23 t111 x12 h).go .pan fun t112 h=>(xfieldAddr P 48 t112 1 h).go .pan fun t113 h=>(xload P 46 t113 h).go .pan fun t114 h=>(cl (.f 123) [t109,t114,(.int .i64 1)] h).go .pan fun t115 h=>(xextract t115 0 h).go .pan fun t116 h=>(xextract t115 1 h).go .pan fun t117 h=>(xun P .not t117 h).go .pan fun t118 h=>ifV t118 (.ok (.tuple ⟨[t116,t101,(.bool false)]⟩) h) ((xbuildSlice P 71 1 [(0,(.int .u8 10))] h).go .pan fun t119 h=>(xbuiltin P .append [71,71] [t116,t119] h).go .pan fun t120 h=>(xbin P .add 3 x12 (.int .i64 1) h).go .pan fun t121 h=>(l21 P cl nu nu t120 t101 x4 t121 h)):=by kernel_rfl
theorem eq:runX P cl nu an86 Tryz.f86 [x0,x1,x2] h=(xbox 25 x1 h).go .pan fun t1 h=>(xfieldAddr P 25 t1 0 h).go .pan fun t2 h=>(xload P 9 t2 h).go .pan fun t3 h=>(cl (.f 120) [t3] h).go .pan fun t4 h=>(xun P .not t4 h).go .pan fun t5 h=>ifV t5 (.ok (.tuple ⟨[x0,x2,(.bool false)]⟩) h) ((xfieldAddr P 25 t1 1 h).go .pan fun t6 h=>(xload P 3 t6 h).go .pan fun t7 h=>(xbin P .lss 3 t7 (.int .i64 1) h).go .pan fun t8 h=>ifV t8 (.ok (.tuple ⟨[x0,x2,(.bool false)]⟩) h) ((xfieldAddr P 25 t1 1 h).go .pan fun t9 h=>(xload P 3 t9 h).go .pan fun t10 h=>(xbin P .gtr 3 t10 (.int .i64 1048576) h).go .pan fun t11 h=>ifV t11 (.ok (.tuple ⟨[x0,x2,(.bool false)]⟩) h) ((xfieldAddr P 25 t1 2 h).go .pan fun t12 h=>(xload P 22 t12 h).go .pan fun t13 h=>(xbuiltin P .len [22] [t13] h).go .pan fun t14 h=>(xbin P .gtr 3 t14 (.int .i64 64) h).go .pan fun t15 h=>ifV t15 (.ok (.tuple ⟨[x0,x2,(.bool false)]⟩) h) ((xfieldAddr P 25 t1 3 h).go .pan fun t16 h=>(xload P 23 t16 h).go .pan fun t17 h=>(xbuiltin P .len [23] [t17] h).go .pan fun t18 h=>(xbin P .lss 3 t18 (.int .i64 1) h).go .pan fun t19 h=>ifV t19 (.ok (.tuple ⟨[x0,x2,(.bool false)]⟩) h) ((xfieldAddr P 25 t1 3 h).go .pan fun t20 h=>(xload P 23 t20 h).go .pan fun t21 h=>(xbuiltin P .len [23] [t21] h).go .pan fun t22 h=>(xbin P .gtr 3 t22 (.int .i64 8) h).go .pan fun t23 h=>ifV t23 (.ok (.tuple ⟨[x0,x2,(.bool false)]⟩) h) (j3 P cl nu nu x0 x2 t1 h)))))):=by kernel_rfl
end
end F86
namespace F119
noncomputable section
variable (P:Program) (cl:Cl) (nu mu:Nu) (x0 x3 x4 x5:Value) (h:H)
noncomputable def s:=sub (bodyOf Tryz.f119)
noncomputable def k0:Ko:=kfn P Tryz.f119.results.toList
def k1:Ko:=kC P cl nu an119 (s [1,1,1,1]) (k0 P)
def k2:Ko:=kblk 0 (k1 P cl nu)
def l4:=mu 9 (lC P cl nu an119 [0,3,4,5] (s [1,1,1,0,1,0,0]) (k2 P cl nu)) [(0,x0),(3,x3),(4,x4),(5,x5)] h
def k3:Ko:=kL P cl nu an119 9 [0,3,4,5] (s [1,1,1,0,1,0,0]) (k2 P cl nu)
def j6:=mu 12 (evT P cl an119 nu (s [1,1,1,0,1,0,0,1]) (k3 P cl nu)) [(0,x0),(3,x3),(4,x4),(5,x5)] h
def j9:=mu 18 (evT P cl an119 nu (s [1,1,1,1]) (k0 P)) [(0,x0),(3,x3),(4,x4)] h
theorem l4n:evT P cl an119 nu (s [1,1,1,0,1,0,0]) (kL P cl nu an119 9 [0,3,4,5] (s [1,1,1,0,1,0,0]) (k2 P cl nu)) [(0,x0),(3,x3),(4,x4),(5,x5)] h=(xbuiltin P .len [9] [x0] h).go .pan fun t1 h=>(xbin P .lss 3 x5 t1 h).go .pan fun t2 h=>ifV t2 (j6 P cl nu nu x0 x3 x4 x5 h) (j9 P cl nu nu x0 x3 x4 h):=by kernel_rfl
def l4_eq:=@id (l4 P cl nu0 nu0 x0 x3 x4 x5 h=_) (lpN (l4n P cl nu0 x0 x3 x4 x5 h))
theorem j6_eq:j6 P cl nu nu0 x0 x3 x4 x5 h=(xindex P 9 x0 x5 h).go .pan fun t3 h=>(xbin P .eql 5 t3 (.int .u8 47) h).go .pan fun t4 h=>ifV t4 ((xslice P 9 x0 (some x4) (some x5) none h).go .pan fun t5 h=>(xbuildSlice P 22 1 [(0,t5)] h).go .pan fun t6 h=>(xbuiltin P .append [22,22] [x3,t6] h).go .pan fun t7 h=>(xbin P .add 3 x5 (.int .i64 1) h).go .pan fun t8 h=>(xbin P .add 3 x5 (.int .i64 1) h).go .pan fun t9 h=>(l4 P cl nu nu x0 t7 t8 t9 h)) ((xbin P .add 3 x5 (.int .i64 1) h).go .pan fun t10 h=>(l4 P cl nu nu x0 x3 x4 t10 h)):=by kernel_rfl
theorem j9_eq:j9 P cl nu nu0 x0 x3 x4 h=(xslice P 9 x0 (some x4) none none h).go .pan fun t11 h=>(xbuildSlice P 22 1 [(0,t11)] h).go .pan fun t12 h=>(xbuiltin P .append [22,22] [x3,t12] h).go .pan fun t13 h=>.ok t13 h:=by kernel_rfl
theorem eq:runX P cl nu an119 Tryz.f119 [x0] h=l4 P cl nu nu x0 (.slice none 0 0) (.int .i64 0) (.int .i64 0) h:=by kernel_rfl
end
end F119
namespace F120
noncomputable section
variable (P:Program) (cl:Cl) (nu mu:Nu) (x0 x3:Value) (h:H)
noncomputable def s:=sub (bodyOf Tryz.f120)
noncomputable def k0:Ko:=kfn P Tryz.f120.results.toList
def j3:=mu 6 (evT P cl an120 nu (s [1,1]) (k0 P)) [(0,x0)] h
def k2:Ko:=kC P cl nu an120 (s [1,1,1]) (k0 P)
def k3:Ko:=kblk 0 (k2 P cl nu)
def l4:=mu 9 (lC P cl nu an120 [0,3] (s [1,1,0,1,0,0]) (k3 P cl nu)) [(0,x0),(3,x3)] h
def k4:Ko:=kL P cl nu an120 9 [0,3] (s [1,1,0,1,0,0]) (k3 P cl nu)
def j6:=mu 12 (evT P cl an120 nu (s [1,1,0,1,0,0,1]) (k4 P cl nu)) [(0,x0),(3,x3)] h
def j8:=mu 16 (evT P cl an120 nu (s [1,1,1]) (k0 P)) [] h
theorem j3_eq:j3 P cl nu nu0 x0 h=l4 P cl nu nu x0 (.int .i64 0) h:=by kernel_rfl
theorem l4n:evT P cl an120 nu (s [1,1,0,1,0,0]) (kL P cl nu an120 9 [0,3] (s [1,1,0,1,0,0]) (k3 P cl nu)) [(0,x0),(3,x3)] h=(xbuiltin P .len [9] [x0] h).go .pan fun t7 h=>(xbin P .lss 3 x3 t7 h).go .pan fun t8 h=>ifV t8 (j6 P cl nu nu x0 x3 h) (j8 P cl nu nu h):=by kernel_rfl
def l4_eq:=@id (l4 P cl nu0 nu0 x0 x3 h=_) (lpN (l4n P cl nu0 x0 x3 h))
theorem j6_eq:j6 P cl nu nu0 x0 x3 h=(xindex P 9 x0 x3 h).go .pan fun t9 h=>(cl (.f 159) [t9] h).go .pan fun t10 h=>(xun P .not t10 h).go .pan fun t11 h=>ifV t11 (.ok (.bool false) h) ((xbin P .add 3 x3 (.int .i64 1) h).go .pan fun t12 h=>(l4 P cl nu nu x0 t12 h)):=by kernel_rfl
theorem j8_eq:j8 P cl nu nu0 h = .ok (.bool true) h:=by kernel_rfl
theorem eq:runX P cl nu an120 Tryz.f120 [x0] h=(xbuiltin P .len [9] [x0] h).go .pan fun t1 h=>(xbin P .lss 3 t1 (.int .i64 1) h).go .pan fun t2 h=>ifV t2 (.ok (.bool false) h) ((xbuiltin P .len [9] [x0] h).go .pan fun t3 h=>(xbin P .gtr 3 t3 (.int .i64 64) h).go .pan fun t4 h=>ifV t4 (.ok (.bool false) h) ((xbin P .eql 9 x0 (.string ⟨#[46]⟩) h).go .pan fun t5 h=>ifV t5 (.ok (.bool false) h) ((xbin P .eql 9 x0 (.string ⟨#[46,46]⟩) h).go .pan fun t6 h=>ifV t6 (.ok (.bool false) h) (j3 P cl nu nu x0 h)))):=by kernel_rfl
end
end F120
namespace F122
noncomputable section
variable (P:Program) (cl:Cl) (nu mu:Nu) (x0 x4 x5 x6 x7 x30 x31 x32:Value) (h:H)
noncomputable def s:=sub (bodyOf Tryz.f122)
noncomputable def k0:Ko:=kfn P Tryz.f122.results.toList
def k1:Ko:=kC P cl nu an122 (s [1,1,1,1,1]) (k0 P)
def k2:Ko:=kblk 0 (k1 P cl nu)
def l5:=mu 11 (lC P cl nu an122 [0,4,5,6,7] (s [1,1,1,1,0,1,0,0]) (k2 P cl nu)) [(0,x0),(4,x4),(5,x5),(6,x6),(7,x7)] h
def k3:Ko:=kL P cl nu an122 11 [0,4,5,6,7] (s [1,1,1,1,0,1,0,0]) (k2 P cl nu)
def j7:=mu 14 (evT P cl an122 nu (s [1,1,1,1,0,1,0,0,1]) (k3 P cl nu)) [(0,x0),(4,x4),(5,x5),(6,x6),(7,x7)] h
def k5:Ko:=kC P cl nu an122 (s [1,1,1,1,0,1,0,0,1,1]) (k3 P cl nu)
def k6:Ko:=kblk 1 (k5 P cl nu)
def j14:=mu 28 (evT P cl an122 nu (s [1,1,1,1,1]) (k0 P)) [(0,x0),(4,x4),(5,x5)] h
def j10:=mu 20 (evT P cl an122 nu (s [1,1,1,1,0,1,0,0,1,0,0,1,1]) (k6 P cl nu)) [(0,x0),(4,x4),(5,x5),(6,x6),(7,x7),(30,x30),(31,x31),(32,x32)] h
theorem l5n:evT P cl an122 nu (s [1,1,1,1,0,1,0,0]) (kL P cl nu an122 11 [0,4,5,6,7] (s [1,1,1,1,0,1,0,0]) (k2 P cl nu)) [(0,x0),(4,x4),(5,x5),(6,x6),(7,x7)] h=(xbuiltin P .len [22] [x4] h).go .pan fun t4 h=>(xbin P .lss 3 x7 t4 h).go .pan fun t5 h=>ifV t5 (j7 P cl nu nu x0 x4 x5 x6 x7 h) (j14 P cl nu nu x0 x4 x5 h):=by kernel_rfl
def l5_eq:=@id (l5 P cl nu0 nu0 x0 x4 x5 x6 x7 h=_) (lpN (l5n P cl nu0 x0 x4 x5 x6 x7 h))
theorem j7_eq:j7 P cl nu nu0 x0 x4 x5 x6 x7 h=(xindexAddr P 22 x4 x7 h).go .pan fun t6 h=>(xload P 9 t6 h).go .pan fun t7 h=>(cl (.f 160) [t7,x6] h).go .pan fun t8 h=>(xbin P .geq 3 t8 (.int .i64 0) h).go .pan fun t9 h=>ifV t9 ((xbin P .lss 3 t8 x5 h).go .pan fun t10 h=>ifV t10 (j10 P cl nu nu x0 x4 t8 x6 x7 t8 x5 t10 h) (j10 P cl nu nu x0 x4 x5 x6 x7 t8 x5 t10 h)) (j10 P cl nu nu x0 x4 x5 x6 x7 (.tuple #[]) (.tuple #[]) (.tuple #[]) h):=by kernel_rfl
theorem j14_eq:j14 P cl nu nu0 x0 x4 x5 h=(xbuiltin P .len [9] [x0] h).go .pan fun t11 h=>(xbin P .gtr 3 t11 (.int .i64 255) h).go .pan fun t12 h=>ifV t12 ((xbin P .lss 3 (.int .i64 255) x5 h).go .pan fun t13 h=>ifV t13 ((xbuiltin P .len [9] [x0] h).go .pan fun t14 h=>(xbin P .leq 3 (.int .i64 255) t14 h).go .pan fun t15 h=>ifV t15 (.ok (.tuple ⟨[(.slice none 0 0),(.int .i64 255)]⟩) h) (.ok (.tuple ⟨[x4,(.int .i64 (-1))]⟩) h)) ((xbuiltin P .len [9] [x0] h).go .pan fun t16 h=>(xbin P .leq 3 x5 t16 h).go .pan fun t17 h=>ifV t17 (.ok (.tuple ⟨[(.slice none 0 0),x5]⟩) h) (.ok (.tuple ⟨[x4,(.int .i64 (-1))]⟩) h))) ((xbuiltin P .len [9] [x0] h).go .pan fun t18 h=>(xbin P .leq 3 x5 t18 h).go .pan fun t19 h=>ifV t19 (.ok (.tuple ⟨[(.slice none 0 0),x5]⟩) h) (.ok (.tuple ⟨[x4,(.int .i64 (-1))]⟩) h)):=by kernel_rfl
theorem j10_eq:j10 P cl nu nu0 x0 x4 x5 x6 x7 x30 x31 x32 h=(xindexAddr P 22 x4 x7 h).go .pan fun t20 h=>(xload P 9 t20 h).go .pan fun t21 h=>(xbuiltin P .len [9] [t21] h).go .pan fun t22 h=>(xbin P .add 3 x6 t22 h).go .pan fun t23 h=>(xindexAddr P 22 x4 x7 h).go .pan fun t24 h=>(xload P 9 t24 h).go .pan fun t25 h=>(xbuiltin P .len [9] [t25] h).go .pan fun t26 h=>(xbin P .eql 3 t26 (.int .i64 0) h).go .pan fun t27 h=>ifV t27 ((xbin P .lss 3 t23 x5 h).go .pan fun t28 h=>ifV t28 ((xbin P .add 3 t23 (.int .i64 1) h).go .pan fun t29 h=>(xbin P .add 3 x7 (.int .i64 1) h).go .pan fun t30 h=>(l5 P cl nu nu x0 x4 t23 t29 t30 h)) ((xbin P .add 3 t23 (.int .i64 1) h).go .pan fun t31 h=>(xbin P .add 3 x7 (.int .i64 1) h).go .pan fun t32 h=>(l5 P cl nu nu x0 x4 x5 t31 t32 h))) ((xbin P .eql 3 x7 (.int .i64 15) h).go .pan fun t33 h=>ifV t33 ((xbin P .add 3 x7 (.int .i64 1) h).go .pan fun t34 h=>(xbuiltin P .len [22] [x4] h).go .pan fun t35 h=>(xbin P .lss 3 t34 t35 h).go .pan fun t36 h=>ifV t36 ((xbin P .lss 3 t23 x5 h).go .pan fun t37 h=>ifV t37 ((xbin P .add 3 t23 (.int .i64 1) h).go .pan fun t38 h=>(xbin P .add 3 x7 (.int .i64 1) h).go .pan fun t39 h=>(l5 P cl nu nu x0 x4 t23 t38 t39 h)) ((xbin P .add 3 t23 (.int .i64 1) h).go .pan fun t40 h=>(xbin P .add 3 x7 (.int .i64 1) h).go .pan fun t41 h=>(l5 P cl nu nu x0 x4 x5 t40 t41 h))) ((xbin P .add 3 t23 (.int .i64 1) h).go .pan fun t42 h=>(xbin P .add 3 x7 (.int .i64 1) h).go .pan fun t43 h=>(l5 P cl nu nu x0 x4 x5 t42 t43 h))) ((xbin P .add 3 t23 (.int .i64 1) h).go .pan fun t44 h=>(xbin P .add 3 x7 (.int .i64 1) h).go .pan fun t45 h=>(l5 P cl nu nu x0 x4 x5 t44 t45 h))):=by kernel_rfl
theorem eq:runX P cl nu an122 Tryz.f122 [x0] h=(cl (.f 119) [x0] h).go .pan fun t1 h=>(xbuiltin P .len [9] [x0] h).go .pan fun t2 h=>(xbin P .add 3 t2 (.int .i64 1) h).go .pan fun t3 h=>(l5 P cl nu nu x0 t1 t3 (.int .i64 0) (.int .i64 0) h):=by kernel_rfl
end
end F122
namespace F123
noncomputable section
variable (P:Program) (cl:Cl) (nu mu:Nu) (x0 x1 x2 x4 x8 x9 x44 x51 x52 x53:Value) (h:H)
noncomputable def s:=sub (bodyOf Tryz.f123)
noncomputable def k0:Ko:=kfn P Tryz.f123.results.toList
def j3:=mu 6 (evT P cl an123 nu (s [1,1]) (k0 P)) [(0,x0),(2,x2),(4,x4)] h
def j5:=mu 10 (evT P cl an123 nu (s [1,1,1]) (k0 P)) [(0,x0),(2,x2),(4,x4)] h
def k3:Ko:=kC P cl nu an123 (s [1,1,1,1,1,1,1,1]) (k0 P)
def k4:Ko:=kblk 0 (k3 P cl nu)
def l10:=mu 21 (lC P cl nu an123 [0,2,4,8,9] (s [1,1,1,1,1,1,1,0,1,0,0]) (k4 P cl nu)) [(0,x0),(2,x2),(4,x4),(8,x8),(9,x9)] h
def k5:Ko:=kL P cl nu an123 21 [0,2,4,8,9] (s [1,1,1,1,1,1,1,0,1,0,0]) (k4 P cl nu)
def j12:=mu 24 (evT P cl an123 nu (s [1,1,1,1,1,1,1,0,1,0,0,1]) (k5 P cl nu)) [(0,x0),(2,x2),(4,x4),(9,x9),(44,x44)] h
def k7:Ko:=kC P cl nu an123 (s [1,1,1,1,1,1,1,0,1,0,0,1,1]) (k5 P cl nu)
def k8:Ko:=kblk 1 (k7 P cl nu)
def j15:=mu 30 (evT P cl an123 nu (s [1,1,1,1,1,1,1,1]) (k0 P)) [(0,x0),(4,x4),(8,x8)] h
def j14:=mu 28 (evT P cl an123 nu (s [1,1,1,1,1,1,1,0,1,0,0,1,0,0,1]) (k8 P cl nu)) [(0,x0),(2,x2),(4,x4),(9,x9),(44,x44),(51,x51),(52,x52),(53,x53)] h
theorem j3_eq:j3 P cl nu nu0 x0 x2 x4 h=(xfieldAddr P 46 x4 0 h).go .pan fun t6 h=>(xload P 3 t6 h).go .pan fun t7 h=>(xbin P .eql 3 t7 (.int .i64 1) h).go .pan fun t8 h=>ifV t8 ((xfieldAddr P 46 x4 1 h).go .pan fun t9 h=>(xload P 9 t9 h).go .pan fun t10 h=>(cl (.f 84) [t10] h).go .pan fun t11 h=>(xbuiltin P .append [71,9] [x0,t11] h).go .pan fun t12 h=>.ok (.tuple ⟨[t12,(.bool true)]⟩) h) (j5 P cl nu nu x0 x2 x4 h):=by kernel_rfl
theorem j5_eq:j5 P cl nu nu0 x0 x2 x4 h=(xfieldAddr P 46 x4 0 h).go .pan fun t13 h=>(xload P 3 t13 h).go .pan fun t14 h=>(cl (.f 162) [t14] h).go .pan fun t15 h=>(xbuiltin P .append [71,9] [x0,t15] h).go .pan fun t16 h=>(xbuildSlice P 71 1 [(0,(.int .u8 40))] h).go .pan fun t17 h=>(xbuiltin P .append [71,71] [t16,t17] h).go .pan fun t18 h=>(xfieldAddr P 46 x4 1 h).go .pan fun t19 h=>(xload P 9 t19 h).go .pan fun t20 h=>(xbuiltin P .append [71,9] [t18,t20] h).go .pan fun t21 h=>(l10 P cl nu nu t21 x2 x4 (.bool true) (.int .i64 0) h):=by kernel_rfl
theorem l10n:evT P cl an123 nu (s [1,1,1,1,1,1,1,0,1,0,0]) (kL P cl nu an123 21 [0,2,4,8,9] (s [1,1,1,1,1,1,1,0,1,0,0]) (k4 P cl nu)) [(0,x0),(2,x2),(4,x4),(8,x8),(9,x9)] h=(xfieldAddr P 46 x4 4 h).go .pan fun t22 h=>(xload P 44 t22 h).go .pan fun t23 h=>(xbuiltin P .len [44] [t23] h).go .pan fun t24 h=>(xbin P .lss 3 x9 t24 h).go .pan fun t25 h=>ifV t25 (ifV x8 (j12 P cl nu nu x0 x2 x4 x9 x8 h) (j15 P cl nu nu x0 x4 x8 h)) (j15 P cl nu nu x0 x4 x8 h):=by kernel_rfl
def l10_eq:=@id (l10 P cl nu0 nu0 x0 x2 x4 x8 x9 h=_) (lpN (l10n P cl nu0 x0 x2 x4 x8 x9 h))
theorem j12_eq:j12 P cl nu nu0 x0 x2 x4 x9 x44 h=(xbin P .gtr 3 x9 (.int .i64 0) h).go .pan fun t26 h=>ifV t26 ((xbuildSlice P 71 1 [(0,(.int .u8 44))] h).go .pan fun t27 h=>(xbuiltin P .append [71,71] [x0,t27] h).go .pan fun t28 h=>(j14 P cl nu nu t28 x2 x4 x9 x44 (.tuple #[]) (.tuple #[]) (.tuple #[]) h)) ((xfieldAddr P 46 x4 0 h).go .pan fun t29 h=>(xload P 3 t29 h).go .pan fun t30 h=>(xbin P .eql 3 t30 (.int .i64 13) h).go .pan fun t31 h=>ifV t31 ((xbuildSlice P 71 1 [(0,(.int .u8 44))] h).go .pan fun t32 h=>(xbuiltin P .append [71,71] [x0,t32] h).go .pan fun t33 h=>(j14 P cl nu nu t33 x2 x4 x9 x44 t29 t30 t31 h)) (j14 P cl nu nu x0 x2 x4 x9 x44 t29 t30 t31 h)):=by kernel_rfl
theorem j15_eq:j15 P cl nu nu0 x0 x4 x8 h=(xfieldAddr P 46 x4 0 h).go .pan fun t34 h=>(xload P 3 t34 h).go .pan fun t35 h=>(xbin P .eql 3 t35 (.int .i64 7) h).go .pan fun t36 h=>ifV t36 ((xbuildSlice P 71 1 [(0,(.int .u8 44))] h).go .pan fun t37 h=>(xbuiltin P .append [71,71] [x0,t37] h).go .pan fun t38 h=>(xfieldAddr P 46 x4 2 h).go .pan fun t39 h=>(xload P 3 t39 h).go .pan fun t40 h=>(cl (.f 121) [t40] h).go .pan fun t41 h=>(xbuiltin P .append [71,9] [t38,t41] h).go .pan fun t42 h=>(xbuildSlice P 71 1 [(0,(.int .u8 44))] h).go .pan fun t43 h=>(xbuiltin P .append [71,71] [t42,t43] h).go .pan fun t44 h=>(xfieldAddr P 46 x4 3 h).go .pan fun t45 h=>(xload P 3 t45 h).go .pan fun t46 h=>(cl (.f 121) [t46] h).go .pan fun t47 h=>(xbuiltin P .append [71,9] [t44,t47] h).go .pan fun t48 h=>(xbuildSlice P 71 1 [(0,(.int .u8 41))] h).go .pan fun t49 h=>(xbuiltin P .append [71,71] [t48,t49] h).go .pan fun t50 h=>.ok (.tuple ⟨[t50,x8]⟩) h) ((xbuildSlice P 71 1 [(0,(.int .u8 41))] h).go .pan fun t51 h=>(xbuiltin P .append [71,71] [x0,t51] h).go .pan fun t52 h=>.ok (.tuple ⟨[t52,x8]⟩) h):=by kernel_rfl
theorem j14_eq:j14 P cl nu nu0 x0 x2 x4 x9 x44 x51 x52 x53 h=(xfieldAddr P 46 x4 4 h).go .pan fun t53 h=>(xload P 44 t53 h).go .pan fun t54 h=>(xindexAddr P 44 t54 x9 h).go .pan fun t55 h=>(xload P 46 t55 h).go .pan fun t56 h=>(xbin P .add 3 x2 (.int .i64 1) h).go .pan fun t57 h=>(cl (.f 123) [x0,t56,t57] h).go .pan fun t58 h=>(xextract t58 0 h).go .pan fun t59 h=>(xextract t58 1 h).go .pan fun t60 h=>(xbin P .add 3 x9 (.int .i64 1) h).go .pan fun t61 h=>(l10 P cl nu nu t59 x2 x4 t60 t61 h):=by kernel_rfl
theorem eq:runX P cl nu an123 Tryz.f123 [x0,x1,x2] h=(xbox 46 x1 h).go .pan fun t1 h=>(xbin P .gtr 3 x2 (.int .i64 64) h).go .pan fun t2 h=>ifV t2 (.ok (.tuple ⟨[x0,(.bool false)]⟩) h) ((xload P 46 t1 h).go .pan fun t3 h=>(cl (.f 161) [t3] h).go .pan fun t4 h=>(xun P .not t4 h).go .pan fun t5 h=>ifV t5 (.ok (.tuple ⟨[x0,(.bool false)]⟩) h) (j3 P cl nu nu x0 x2 t1 h)):=by kernel_rfl
end
end F123
namespace F159
noncomputable section
variable (P:Program) (cl:Cl) (nu mu:Nu) (x0:Value) (h:H)
theorem eq:runX P cl nu an159 Tryz.f159 [x0] h=(xbin P .geq 5 x0 (.int .u8 97) h).go .pan fun t1 h=>ifV t1 ((xbin P .leq 5 x0 (.int .u8 122) h).go .pan fun t2 h=>ifV t2 (.ok (.bool true) h) ((xbin P .geq 5 x0 (.int .u8 65) h).go .pan fun t3 h=>ifV t3 ((xbin P .leq 5 x0 (.int .u8 90) h).go .pan fun t4 h=>ifV t4 (.ok (.bool true) h) ((xbin P .geq 5 x0 (.int .u8 48) h).go .pan fun t5 h=>ifV t5 ((xbin P .leq 5 x0 (.int .u8 57) h).go .pan fun t6 h=>ifV t6 (.ok (.bool true) h) ((xbin P .eql 5 x0 (.int .u8 46) h).go .pan fun t7 h=>ifV t7 (.ok (.bool true) h) ((xbin P .eql 5 x0 (.int .u8 95) h).go .pan fun t8 h=>ifV t8 (.ok (.bool true) h) ((xbin P .eql 5 x0 (.int .u8 45) h).go .pan fun t9 h=>.ok t9 h)))) ((xbin P .eql 5 x0 (.int .u8 46) h).go .pan fun t10 h=>ifV t10 (.ok (.bool true) h) ((xbin P .eql 5 x0 (.int .u8 95) h).go .pan fun t11 h=>ifV t11 (.ok (.bool true) h) ((xbin P .eql 5 x0 (.int .u8 45) h).go .pan fun t12 h=>.ok t12 h))))) ((xbin P .geq 5 x0 (.int .u8 48) h).go .pan fun t13 h=>ifV t13 ((xbin P .leq 5 x0 (.int .u8 57) h).go .pan fun t14 h=>ifV t14 (.ok (.bool true) h) ((xbin P .eql 5 x0 (.int .u8 46) h).go .pan fun t15 h=>ifV t15 (.ok (.bool true) h) ((xbin P .eql 5 x0 (.int .u8 95) h).go .pan fun t16 h=>ifV t16 (.ok (.bool true) h) ((xbin P .eql 5 x0 (.int .u8 45) h).go .pan fun t17 h=>.ok t17 h)))) ((xbin P .eql 5 x0 (.int .u8 46) h).go .pan fun t18 h=>ifV t18 (.ok (.bool true) h) ((xbin P .eql 5 x0 (.int .u8 95) h).go .pan fun t19 h=>ifV t19 (.ok (.bool true) h) ((xbin P .eql 5 x0 (.int .u8 45) h).go .pan fun t20 h=>.ok t20 h)))))) ((xbin P .geq 5 x0 (.int .u8 65) h).go .pan fun t21 h=>ifV t21 ((xbin P .leq 5 x0 (.int .u8 90) h).go .pan fun t22 h=>ifV t22 (.ok (.bool true) h) ((xbin P .geq 5 x0 (.int .u8 48) h).go .pan fun t23 h=>ifV t23 ((xbin P .leq 5 x0 (.int .u8 57) h).go .pan fun t24 h=>ifV t24 (.ok (.bool true) h) ((xbin P .eql 5 x0 (.int .u8 46) h).go .pan fun t25 h=>ifV t25 (.ok (.bool true) h) ((xbin P .eql 5 x0 (.int .u8 95) h).go .pan fun t26 h=>ifV t26 (.ok (.bool true) h) ((xbin P .eql 5 x0 (.int .u8 45) h).go .pan fun t27 h=>.ok t27 h)))) ((xbin P .eql 5 x0 (.int .u8 46) h).go .pan fun t28 h=>ifV t28 (.ok (.bool true) h) ((xbin P .eql 5 x0 (.int .u8 95) h).go .pan fun t29 h=>ifV t29 (.ok (.bool true) h) ((xbin P .eql 5 x0 (.int .u8 45) h).go .pan fun t30 h=>.ok t30 h))))) ((xbin P .geq 5 x0 (.int .u8 48) h).go .pan fun t31 h=>ifV t31 ((xbin P .leq 5 x0 (.int .u8 57) h).go .pan fun t32 h=>ifV t32 (.ok (.bool true) h) ((xbin P .eql 5 x0 (.int .u8 46) h).go .pan fun t33 h=>ifV t33 (.ok (.bool true) h) ((xbin P .eql 5 x0 (.int .u8 95) h).go .pan fun t34 h=>ifV t34 (.ok (.bool true) h) ((xbin P .eql 5 x0 (.int .u8 45) h).go .pan fun t35 h=>.ok t35 h)))) ((xbin P .eql 5 x0 (.int .u8 46) h).go .pan fun t36 h=>ifV t36 (.ok (.bool true) h) ((xbin P .eql 5 x0 (.int .u8 95) h).go .pan fun t37 h=>ifV t37 (.ok (.bool true) h) ((xbin P .eql 5 x0 (.int .u8 45) h).go .pan fun t38 h=>.ok t38 h))))):=by kernel_rfl
end
end F159
namespace F160
noncomputable section
variable (P:Program) (cl:Cl) (nu mu:Nu) (x0 x1 x5:Value) (h:H)
noncomputable def s:=sub (bodyOf Tryz.f160)
noncomputable def k0:Ko:=kfn P Tryz.f160.results.toList
def j3:=mu 6 (evT P cl an160 nu (s [1,1]) (k0 P)) [(0,x0),(1,x1)] h
def k2:Ko:=kC P cl nu an160 (s [1,1,1]) (k0 P)
def k3:Ko:=kblk 0 (k2 P cl nu)
def l4:=mu 9 (lC P cl nu an160 [0,1,5] (s [1,1,0,1,0,0]) (k3 P cl nu)) [(0,x0),(1,x1),(5,x5)] h
def k4:Ko:=kL P cl nu an160 9 [0,1,5] (s [1,1,0,1,0,0]) (k3 P cl nu)
def j6:=mu 12 (evT P cl an160 nu (s [1,1,0,1,0,0,1]) (k4 P cl nu)) [(0,x0),(1,x1),(5,x5)] h
def j8:=mu 16 (evT P cl an160 nu (s [1,1,1]) (k0 P)) [] h
theorem j3_eq:j3 P cl nu nu0 x0 x1 h=l4 P cl nu nu x0 x1 (.int .i64 0) h:=by kernel_rfl
theorem l4n:evT P cl an160 nu (s [1,1,0,1,0,0]) (kL P cl nu an160 9 [0,1,5] (s [1,1,0,1,0,0]) (k3 P cl nu)) [(0,x0),(1,x1),(5,x5)] h=(xbuiltin P .len [9] [x0] h).go .pan fun t3 h=>(xbin P .lss 3 x5 t3 h).go .pan fun t4 h=>ifV t4 (j6 P cl nu nu x0 x1 x5 h) (j8 P cl nu nu h):=by kernel_rfl
def l4_eq:=@id (l4 P cl nu0 nu0 x0 x1 x5 h=_) (lpN (l4n P cl nu0 x0 x1 x5 h))
theorem j6_eq:j6 P cl nu nu0 x0 x1 x5 h=(xindex P 9 x0 x5 h).go .pan fun t5 h=>(cl (.f 159) [t5] h).go .pan fun t6 h=>(xun P .not t6 h).go .pan fun t7 h=>ifV t7 ((xbin P .add 3 x1 x5 h).go .pan fun t8 h=>.ok t8 h) ((xbin P .eql 3 x5 (.int .i64 64) h).go .pan fun t9 h=>ifV t9 ((xbin P .add 3 x1 x5 h).go .pan fun t10 h=>.ok t10 h) ((xbin P .add 3 x5 (.int .i64 1) h).go .pan fun t11 h=>(l4 P cl nu nu x0 x1 t11 h))):=by kernel_rfl
theorem j8_eq:j8 P cl nu nu0 h = .ok (.int .i64 (-1)) h:=by kernel_rfl
theorem eq:runX P cl nu an160 Tryz.f160 [x0,x1] h=(xbin P .eql 9 x0 (.string ⟨#[46]⟩) h).go .pan fun t1 h=>ifV t1 (.ok x1 h) ((xbin P .eql 9 x0 (.string ⟨#[46,46]⟩) h).go .pan fun t2 h=>ifV t2 (.ok x1 h) (j3 P cl nu nu x0 x1 h)):=by kernel_rfl
end
end F160
namespace F161
noncomputable section
variable (P:Program) (cl:Cl) (nu mu:Nu) (x0 x1 x60 x71:Value) (h:H)
noncomputable def s:=sub (bodyOf Tryz.f161)
noncomputable def k0:Ko:=kfn P Tryz.f161.results.toList
def j3:=mu 6 (evT P cl an161 nu (s [1,1]) (k0 P)) [(1,x1)] h
def j5:=mu 10 (evT P cl an161 nu (s [1,1,1]) (k0 P)) [(1,x1)] h
def j8:=mu 16 (evT P cl an161 nu (s [1,1,1,1,1]) (k0 P)) [(1,x1)] h
def k4:Ko:=kC P cl nu an161 (s [1,1,1,1,1,1]) (k0 P)
def k5:Ko:=kblk 0 (k4 P cl nu)
def j14:=mu 28 (evT P cl an161 nu (s [1,1,1,1,1,0,1,0,1,1,1]) (k5 P cl nu)) [(1,x1),(60,x60),(71,x71)] h
def j17:=mu 34 (evT P cl an161 nu (s [1,1,1,1,1,1]) (k0 P)) [(1,x1)] h
theorem j3_eq:j3 P cl nu nu0 x1 h=(xfieldAddr P 46 x1 0 h).go .pan fun t11 h=>(xload P 3 t11 h).go .pan fun t12 h=>(xbin P .eql 3 t12 (.int .i64 1) h).go .pan fun t13 h=>ifV t13 ((xfieldAddr P 46 x1 4 h).go .pan fun t14 h=>(xload P 44 t14 h).go .pan fun t15 h=>(xbuiltin P .len [44] [t15] h).go .pan fun t16 h=>(xbin P .eql 3 t16 (.int .i64 0) h).go .pan fun t17 h=>.ok t17 h) (j5 P cl nu nu x1 h):=by kernel_rfl
theorem j5_eq:j5 P cl nu nu0 x1 h=(xfieldAddr P 46 x1 0 h).go .pan fun t18 h=>(xload P 3 t18 h).go .pan fun t19 h=>(cl (.f 162) [t19] h).go .pan fun t20 h=>(cl (.f 178) [t20] h).go .pan fun t21 h=>(xextract t21 0 h).go .pan fun t22 h=>(xextract t21 1 h).go .pan fun t23 h=>(xfieldAddr P 46 x1 0 h).go .pan fun t24 h=>(xload P 3 t24 h).go .pan fun t25 h=>(cl (.f 162) [t25] h).go .pan fun t26 h=>(xbin P .eql 9 t26 (.string ⟨#[]⟩) h).go .pan fun t27 h=>ifV t27 (.ok (.bool false) h) ((xbin P .geq 3 t23 (.int .i64 0) h).go .pan fun t28 h=>ifV t28 ((xfieldAddr P 46 x1 4 h).go .pan fun t29 h=>(xload P 44 t29 h).go .pan fun t30 h=>(xbuiltin P .len [44] [t30] h).go .pan fun t31 h=>(xbin P .neq 3 t31 t23 h).go .pan fun t32 h=>ifV t32 (.ok (.bool false) h) ((xbin P .lss 3 t23 (.int .i64 0) h).go .pan fun t33 h=>ifV t33 ((xfieldAddr P 46 x1 4 h).go .pan fun t34 h=>(xload P 44 t34 h).go .pan fun t35 h=>(xbuiltin P .len [44] [t35] h).go .pan fun t36 h=>(xbin P .lss 3 t36 (.int .i64 1) h).go .pan fun t37 h=>ifV t37 (.ok (.bool false) h) (j8 P cl nu nu x1 h)) (j8 P cl nu nu x1 h))) ((xbin P .lss 3 t23 (.int .i64 0) h).go .pan fun t38 h=>ifV t38 ((xfieldAddr P 46 x1 4 h).go .pan fun t39 h=>(xload P 44 t39 h).go .pan fun t40 h=>(xbuiltin P .len [44] [t40] h).go .pan fun t41 h=>(xbin P .lss 3 t41 (.int .i64 1) h).go .pan fun t42 h=>ifV t42 (.ok (.bool false) h) (j8 P cl nu nu x1 h)) (j8 P cl nu nu x1 h))):=by kernel_rfl
theorem j8_eq:j8 P cl nu nu0 x1 h=(xfieldAddr P 46 x1 0 h).go .pan fun t43 h=>(xload P 3 t43 h).go .pan fun t44 h=>(xbin P .eql 3 t44 (.int .i64 2) h).go .pan fun t45 h=>ifV t45 ((xfieldAddr P 46 x1 1 h).go .pan fun t46 h=>(xload P 9 t46 h).go .pan fun t47 h=>(cl (.f 122) [t47] h).go .pan fun t48 h=>(xextract t48 0 h).go .pan fun t49 h=>(xextract t48 1 h).go .pan fun t50 h=>(xbin P .lss 3 t50 (.int .i64 0) h).go .pan fun t51 h=>.ok t51 h) ((xbin P .eql 3 t44 (.int .i64 3) h).go .pan fun t52 h=>ifV t52 (j14 P cl nu nu x1 t44 t52 h) ((xbin P .eql 3 t44 (.int .i64 13) h).go .pan fun t53 h=>(j14 P cl nu nu x1 t44 t53 h))):=by kernel_rfl
theorem j14_eq:j14 P cl nu nu0 x1 x60 x71 h=ifV x71 ((xfieldAddr P 46 x1 1 h).go .pan fun t54 h=>(xload P 9 t54 h).go .pan fun t55 h=>(cl (.f 120) [t55] h).go .pan fun t56 h=>.ok t56 h) ((xbin P .eql 3 x60 (.int .i64 7) h).go .pan fun t57 h=>ifV t57 ((xfieldAddr P 46 x1 1 h).go .pan fun t58 h=>(xload P 9 t58 h).go .pan fun t59 h=>(xbin P .eql 9 t59 (.string ⟨#[]⟩) h).go .pan fun t60 h=>ifV t60 ((xfieldAddr P 46 x1 2 h).go .pan fun t61 h=>(xload P 3 t61 h).go .pan fun t62 h=>(xbin P .geq 3 t62 (.int .i64 0) h).go .pan fun t63 h=>ifV t63 ((xfieldAddr P 46 x1 3 h).go .pan fun t64 h=>(xload P 3 t64 h).go .pan fun t65 h=>(xbin P .geq 3 t65 (.int .i64 0) h).go .pan fun t66 h=>ifV t66 ((xfieldAddr P 46 x1 2 h).go .pan fun t67 h=>(xload P 3 t67 h).go .pan fun t68 h=>(xbin P .leq 3 t68 (.int .i64 2147483647) h).go .pan fun t69 h=>ifV t69 ((xfieldAddr P 46 x1 3 h).go .pan fun t70 h=>(xload P 3 t70 h).go .pan fun t71 h=>(xbin P .leq 3 t71 (.int .i64 2147483647) h).go .pan fun t72 h=>.ok t72 h) (.ok (.bool false) h)) (.ok (.bool false) h)) (.ok (.bool false) h)) (.ok (.bool false) h)) (j17 P cl nu nu x1 h)):=by kernel_rfl
theorem j17_eq:j17 P cl nu nu0 x1 h=(xfieldAddr P 46 x1 1 h).go .pan fun t73 h=>(xload P 9 t73 h).go .pan fun t74 h=>(xbin P .eql 9 t74 (.string ⟨#[]⟩) h).go .pan fun t75 h=>.ok t75 h:=by kernel_rfl
theorem eq:runX P cl nu an161 Tryz.f161 [x0] h=(xbox 46 x0 h).go .pan fun t1 h=>(xfieldAddr P 46 t1 0 h).go .pan fun t2 h=>(xload P 3 t2 h).go .pan fun t3 h=>(xbin P .neq 3 t3 (.int .i64 7) h).go .pan fun t4 h=>ifV t4 ((xfieldAddr P 46 t1 2 h).go .pan fun t5 h=>(xload P 3 t5 h).go .pan fun t6 h=>(xbin P .neq 3 t6 (.int .i64 0) h).go .pan fun t7 h=>ifV t7 (.ok (.bool false) h) ((xfieldAddr P 46 t1 3 h).go .pan fun t8 h=>(xload P 3 t8 h).go .pan fun t9 h=>(xbin P .neq 3 t9 (.int .i64 0) h).go .pan fun t10 h=>ifV t10 (.ok (.bool false) h) (j3 P cl nu nu t1 h))) (j3 P cl nu nu t1 h):=by kernel_rfl
end
end F161
namespace F162
noncomputable section
variable (P:Program) (cl:Cl) (nu mu:Nu) (x0:Value) (h:H)
theorem eq:runX P cl nu an162 Tryz.f162 [x0] h=(xbuild P 210 [(0,(.string ⟨#[]⟩)),(1,(.string ⟨#[]⟩)),(2,(.string ⟨#[105,110]⟩)),(3,(.string ⟨#[118,97,114]⟩)),(4,(.string ⟨#[99,97,116]⟩)),(5,(.string ⟨#[117,112,112,101,114]⟩)),(6,(.string ⟨#[108,111,119,101,114]⟩)),(7,(.string ⟨#[108,105,110,101,115]⟩)),(8,(.string ⟨#[115,111,114,116]⟩)),(9,(.string ⟨#[117,110,105,113]⟩)),(10,(.string ⟨#[114,101,112,108,97,99,101]⟩)),(11,(.string ⟨#[99,111,117,110,116]⟩)),(12,(.string ⟨#[105,102]⟩)),(13,(.string ⟨#[101,97,99,104]⟩)),(14,(.string ⟨#[107,101,121]⟩)),(15,(.string ⟨#[102,97,105,108]⟩))] h).go .pan fun t1 h=>(xalloc P 210 h).go .pan fun t2 h=>(xstore P 210 t2 t1 h).go .pan fun t3 h=>(xbin P .lss 3 x0 (.int .i64 0) h).go .pan fun t4 h=>ifV t4 (.ok (.string ⟨#[]⟩) h) ((xbin P .gtr 3 x0 (.int .i64 15) h).go .pan fun t5 h=>ifV t5 (.ok (.string ⟨#[]⟩) h) ((xindexAddr P 210 t2 x0 h).go .pan fun t6 h=>(xload P 9 t6 h).go .pan fun t7 h=>.ok t7 h)):=by kernel_rfl
end
end F162
namespace F178
noncomputable section
variable (P:Program) (cl:Cl) (nu mu:Nu) (x0:Value) (h:H)
theorem eq:runX P cl nu an178 Tryz.f178 [x0] h=(xbin P .eql 9 x0 (.string ⟨#[105,110]⟩) h).go .pan fun t1 h=>ifV t1 (.ok (.tuple ⟨[(.int .i64 2),(.int .i64 0)]⟩) h) ((xbin P .eql 9 x0 (.string ⟨#[118,97,114]⟩) h).go .pan fun t2 h=>ifV t2 (.ok (.tuple ⟨[(.int .i64 3),(.int .i64 0)]⟩) h) ((xbin P .eql 9 x0 (.string ⟨#[99,97,116]⟩) h).go .pan fun t3 h=>ifV t3 (.ok (.tuple ⟨[(.int .i64 4),(.int .i64 (-1))]⟩) h) ((xbin P .eql 9 x0 (.string ⟨#[117,112,112,101,114]⟩) h).go .pan fun t4 h=>ifV t4 (.ok (.tuple ⟨[(.int .i64 5),(.int .i64 1)]⟩) h) ((xbin P .eql 9 x0 (.string ⟨#[108,111,119,101,114]⟩) h).go .pan fun t5 h=>ifV t5 (.ok (.tuple ⟨[(.int .i64 6),(.int .i64 1)]⟩) h) ((xbin P .eql 9 x0 (.string ⟨#[108,105,110,101,115]⟩) h).go .pan fun t6 h=>ifV t6 (.ok (.tuple ⟨[(.int .i64 7),(.int .i64 1)]⟩) h) ((xbin P .eql 9 x0 (.string ⟨#[115,111,114,116]⟩) h).go .pan fun t7 h=>ifV t7 (.ok (.tuple ⟨[(.int .i64 8),(.int .i64 1)]⟩) h) ((xbin P .eql 9 x0 (.string ⟨#[117,110,105,113]⟩) h).go .pan fun t8 h=>ifV t8 (.ok (.tuple ⟨[(.int .i64 9),(.int .i64 1)]⟩) h) ((xbin P .eql 9 x0 (.string ⟨#[114,101,112,108,97,99,101]⟩) h).go .pan fun t9 h=>ifV t9 (.ok (.tuple ⟨[(.int .i64 10),(.int .i64 3)]⟩) h) ((xbin P .eql 9 x0 (.string ⟨#[99,111,117,110,116]⟩) h).go .pan fun t10 h=>ifV t10 (.ok (.tuple ⟨[(.int .i64 11),(.int .i64 2)]⟩) h) ((xbin P .eql 9 x0 (.string ⟨#[105,102]⟩) h).go .pan fun t11 h=>ifV t11 (.ok (.tuple ⟨[(.int .i64 12),(.int .i64 3)]⟩) h) ((xbin P .eql 9 x0 (.string ⟨#[101,97,99,104]⟩) h).go .pan fun t12 h=>ifV t12 (.ok (.tuple ⟨[(.int .i64 13),(.int .i64 2)]⟩) h) ((xbin P .eql 9 x0 (.string ⟨#[107,101,121]⟩) h).go .pan fun t13 h=>ifV t13 (.ok (.tuple ⟨[(.int .i64 14),(.int .i64 1)]⟩) h) ((xbin P .eql 9 x0 (.string ⟨#[102,97,105,108]⟩) h).go .pan fun t14 h=>ifV t14 (.ok (.tuple ⟨[(.int .i64 15),(.int .i64 1)]⟩) h) (.ok (.tuple ⟨[(.int .i64 0),(.int .i64 0)]⟩) h)))))))))))))):=by kernel_rfl
end
end F178
end Go.Proofs.YtbfgadekkemlcaaGreatDoor.K
